/- Wheel: Cancel. -/
import Derived.Test.YtkjokpmlnnjmoaaWhV
set_option linter.unusedVariables false
set_option linter.unusedSimpArgs false
namespace Go.Proofs.Ytkjokpmlnnjmoaa.Wh
open Go.RowKit Go.Maps Go.Sort Go.Proofs.Ytkjokpmlnnjmoaa.Base Go.Proofs.Ytkjokpmlnnjmoaa.Rws Go.Proofs.YtkjokpmlnnjmoaaW.PrintWords Go.Proofs.YtkjokpmlnnjmoaaW.PrintMore
attribute [local go_sem] max2_mx min2_mn max_two min_two max_three min_three max_four min_four

theorem cancel_nil (x : Int) (w : World) : Calls Try.prog 18 #[.pointer none, .int .i64 x] w fun e w' => e = .returned (.bool false) ∧ w = w' := by
  go_enter Try.func18, Try.ntmps18
  go_wp2_with (go_at_call 22; refine (none_nil _).mono ?_; rintro e w' ⟨rfl, rfl⟩)
  go_ret
  exact ⟨rfl, rfl⟩

theorem cut_eq : ∀ {R : List Int} {i : Nat} {h : Int}, R.Nodup → R[i]? = some h → R.take i ++ R.drop (i + 1) = R.filter (fun x => decide (x ≠ h))
  | [], i, h, _, hi => by simp at hi
  | x :: R, 0, h, hn, hi => by
    simp at hi
    subst hi
    rw [List.nodup_cons] at hn
    rw [List.filter_cons_of_neg (by simp), List.take_zero, List.nil_append, List.drop_succ_cons, List.drop_zero]
    exact (List.filter_eq_self.2 (fun y hy => decide_eq_true (p := y ≠ x) (fun e => hn.1 (by rw [← e]; exact hy)))).symm
  | x :: R, i + 1, h, hn, hi => by
    rw [List.nodup_cons] at hn
    have hi' : R[i]? = some h := by simpa using hi
    have hx : x ≠ h := fun e => hn.1 (by rw [e]; exact List.mem_of_getElem? hi')
    rw [List.take_succ_cons, List.cons_append, List.drop_succ_cons, cut_eq hn.2 hi', List.filter_cons_of_pos (by simpa using hx)]

theorem J.cut {n : Int} {L : List Tm} {rows : Nat → List Int} (j : J n L rows []) {t : Tm} (ht : t ∈ L) : J n (L.filter (fun x => decide (x.h ≠ t.h))) (upd rows t.ix ((rows t.ix).filter (fun x => decide (x ≠ t.h)))) [] := by
  refine ⟨j.n0, j.nd.sublist ((List.filter_sublist).map _), fun x hx => j.bd x (List.mem_filter.1 hx).1, fun x hx _ => j.pl x (List.mem_filter.1 hx).1 (by simp), fun i => ?_, fun i h => ?_⟩
  · by_cases e : i = t.ix
    · subst e; rw [upd_same]; exact (j.rnd _).sublist List.filter_sublist
    · rw [upd_other _ _ e]; exact j.rnd i
  · by_cases e : i = t.ix
    · subst e
      rw [upd_same, List.mem_filter, j.mem]
      constructor
      · rintro ⟨⟨_, t', ht', rfl, hi⟩, hne⟩
        exact ⟨by simp, t', List.mem_filter.2 ⟨ht', by simpa using hne⟩, rfl, hi⟩
      · rintro ⟨_, t', ht', rfl, hi⟩
        have h1 := List.mem_filter.1 ht'
        exact ⟨⟨by simp, t', h1.1, rfl, hi⟩, by simpa using h1.2⟩
    · rw [upd_other _ _ e, j.mem]
      constructor
      · rintro ⟨_, t', ht', rfl, hi⟩
        refine ⟨by simp, t', List.mem_filter.2 ⟨ht', decide_eq_true (fun hh => ?_)⟩, rfl, hi⟩
        have := j.one ht' ht hh
        rw [this] at hi
        exact e hi.symm
      · rintro ⟨_, t', ht', rfl, hi⟩
        exact ⟨by simp, t', (List.mem_filter.1 ht').1, rfl, hi⟩

theorem ints_get (R : List Int) (j : Nat) (hj : j < R.length) : (R.map (Value.int .i64))[j]? = some (Value.int .i64 R.toArray[j]!) := by
  rw [List.getElem?_map, List.getElem?_eq_getElem hj, Option.map_some, getElem!_pos R.toArray j (by simpa using hj), List.getElem_toArray]

theorem holds_ints {w : World} {P : Nat → Prop} {q o c : Nat} {R : List Int} (h : Ks w P (.slice (some ⟨q, o, none⟩) R.length c) R) : Go.Sort.Holds (Value.int .i64) w q o R.toArray := by
  intro j hj
  exact ⟨Row.cell h j (ints_get R j (by simpa using hj)), Row.frozen h j⟩

/-- What is put into a row of whole numbers. -/
theorem put_ints {w : World} {P : Nat → Prop} {q o c n : Nat} {R R' : List Int} (h : Row 1 3 w P (.slice (some ⟨q, o, none⟩) n c) n (R.map (Value.int .i64))) (hl : R'.length = n) (m : Nat) :
    Row 1 3 (putRow (Value.int .i64) (Sort.ahead w m) q o R'.toArray) P (.slice (some ⟨q, o, none⟩) n c) n (R'.map (Value.int .i64)) ∧ Only (fun k => k = q) w (putRow (Value.int .i64) (Sort.ahead w m) q o R'.toArray) := by
  rcases h with ⟨h, _⟩ | ⟨q', o', c', cells, hv, hP, hh, h1, h2, h3, h4⟩
  · cases h
  · injection hv with e1 e2 e3
    injection e1 with e1
    injection e1 with e4 e5
    subst e3 e4 e5
    have hheap : (putRow (Value.int .i64) (Sort.ahead w m) q o R'.toArray).heap = w.heap.modify q (onCells (putCells (Value.int .i64) o R'.toArray)) := rfl
    have hq : q < w.heap.size := blk_lt hh
    constructor
    · refine .inr ⟨q, o, c, putCells (Value.int .i64) o R'.toArray cells, rfl, hP, ?_, h1, by simpa [putCells] using h2, by simpa using hl, fun j u hu => ?_⟩
      · rw [hheap, Array.getElem?_modify, if_pos rfl, hh]
        rfl
      · have hj : j < R'.length := by
          have := (List.getElem?_eq_some_iff.1 hu).1
          simpa using this
        have hf := ints_get R' j hj
        rw [hu] at hf
        have hsz : o + j < cells.size := by omega
        unfold putCells
        rw [Array.getElem?_mapIdx, Array.getElem?_eq_getElem hsz, Option.map_some, if_pos ⟨by omega, by rw [List.size_toArray]; omega⟩, Nat.add_sub_cancel_left, hf]
    · refine ⟨rfl, rfl, rfl, ?_, fun i hi hn => ?_⟩
      · rw [hheap]; simp
      · rw [hheap, Array.getElem?_modify, if_neg (fun e => hn e.symm)]

theorem del_row {w : World} {P : Nat → Prop} {q o c i : Nat} {R : List Int} {h : Int} (hK : Ks w P (.slice (some ⟨q, o, none⟩) R.length c) R) (hn : R.Nodup) (hge : R[i]? = some h) (m : Nat) :
    Ks (putRow (Value.int .i64) (Sort.ahead w m) q o (R.take i ++ R.drop (i + 1) ++ List.replicate (i + 1 - i) 0).toArray) P (.slice (some ⟨q, o, none⟩) (R.length - (i + 1 - i)) c) (R.filter (fun x => decide (x ≠ h))) ∧ Only (fun k => k = q) w (putRow (Value.int .i64) (Sort.ahead w m) q o (R.take i ++ R.drop (i + 1) ++ List.replicate (i + 1 - i) 0).toArray) := by
  have hi : i < R.length := (List.getElem?_eq_some_iff.1 hge).1
  have hl : (R.take i ++ R.drop (i + 1)).length = R.length - 1 := by rw [List.length_append, List.length_take, List.length_drop]; omega
  obtain ⟨h1, h2⟩ := put_ints (R' := R.take i ++ R.drop (i + 1) ++ List.replicate (i + 1 - i) 0) hK (by rw [List.length_append, hl, List.length_replicate]; omega) m
  refine ⟨?_, h2⟩
  have h3 := Row.pre h1 (R.length - 1) (by omega)
  rw [show R.length - (i + 1 - i) = R.length - 1 by omega]
  unfold Ks
  rw [← cut_eq hn hge, hl]
  rw [Nat.mul_one, ← List.map_take, List.take_append_of_le_length (by omega), List.take_of_length_le (l := R.take i ++ R.drop (i + 1)) (by omega)] at h3
  exact h3

/-- What is not there is not taken away. -/
theorem cancel_none {w : World} {g b : Nat} {n last : Int} {vals : Nat → Value} {L : List Tm} (k : Int) (hk : (Lit.int .i64 k).wf = true) (h : WB w g b n last vals) (hm : TM w b L) (hno : ∀ t ∈ L, t.h ≠ k) : Calls Try.prog 18 #[.pointer (some ⟨g, 0, none⟩), .int .i64 k] w fun e w' => e = .returned (.bool false) ∧ Only (fun _ => False) w w' := by
  have hc := h.mapc
  have H := Lib.hid h
  rcases hm.look_ok k hk with ⟨t, ht, hh, hlk⟩ | ⟨_, hlk⟩
  · exact absurd hh (hno t ht)
  · unfold Tm.v at hlk
    clear h hm hno hk
    go_enter Try.func18, Try.ntmps18
    go_wp2_with (go_at_call 22; refine (none_p H.out).mono ?_; rintro e w' ⟨rfl, rfl⟩)
    go_ret
    exact ⟨rfl, (Only.refl _ w).alloc _⟩

set_option maxHeartbeats 4000000 in
set_option maxRecDepth 100000 in
theorem cancel_p {w : World} {g b : Nat} {F : Nat → Prop} {n last : Int} {L : List Tm} {vals : Nat → Value} {rows : Nat → List Int} (hs : WS w g b F n last L vals rows) (j : J n L rows []) {t : Tm} (ht : t ∈ L) (hL : L.length ≤ 10000) :
    Calls Try.prog 18 #[.pointer (some ⟨g, 0, none⟩), .int .i64 t.h] w fun e w' => e = .returned (.bool true) ∧ PostW w g b F n last (L.filter (fun x => decide (x.h ≠ t.h))) (upd rows t.ix ((rows t.ix).filter (fun x => decide (x ≠ t.h)))) w' := by
  have HS := Lib.hid hs
  have HJ := Lib.hid j
  have HT := Lib.hid ht
  have hwf : (Lit.int .i64 t.h).wf = true := by obtain ⟨D, _, hhd⟩ := hs.map; exact hhd.wf t ht
  have HWF := Lib.hid hwf
  have hlk : (Instr.lookup 53 (.map (some b)) (.int .i64 t.h) true).run Try.prog w = .ok (.tuple #[t.v, .bool true]) w := by
    rcases hs.map.look_ok t.h hwf with ⟨t', ht', hh, hlk⟩ | ⟨hno, _⟩
    · rw [j.one ht' ht hh] at hlk
      exact hlk
    · exact absurd rfl (hno t ht)
  have hpl : (t.lv = 4 ∧ t.sl = 0) ∨ (0 ≤ t.lv ∧ t.lv ≤ 3 ∧ 0 ≤ t.sl ∧ t.sl < 64) := by
    have h1 := place_bd n t.at_
    have h2 := j.pl t ht (by simp)
    have e1 : t.lv = (place n t.at_).1 := congrArg Prod.fst h2
    have e2 : t.sl = (place n t.at_).2 := congrArg Prod.snd h2
    by_cases h4 : t.lv = 4
    · exact .inl ⟨h4, by rw [e2]; exact place_four (by rw [← e1]; exact h4)⟩
    · exact .inr (by omega)
  have HIX : Hid (t.ix < 257) := Lib.hid (by
    have h2 := j.pl t ht (by simp)
    have := ix_lt n t.at_
    unfold Tm.ix
    rw [show t.lv = (place n t.at_).1 from congrArg Prod.fst h2, show t.sl = (place n t.at_).2 from congrArg Prod.snd h2]
    exact this)
  have hmem : t.h ∈ rows t.ix := (j.mem _ _).2 ⟨by simp, t, ht, rfl, rfl⟩
  have HND := Lib.hid (j.rnd t.ix)
  have HRL : Hid ((rows t.ix).length ≤ 10000) := Lib.hid (Nat.le_trans (j.len t.ix) hL)
  have HLI := Lib.hid (fun W => list_p g t W hpl)
  have hc := hs.blk.mapc
  have HMM := Lib.hid hmem
  obtain ⟨a, h, l, s⟩ := t
  obtain ⟨X, hX⟩ : ∃ X, X = (⟨a, h, l, s⟩ : Tm).ix := ⟨_, rfl⟩
  rw [← hX] at HIX HND HRL HLI HMM ⊢
  have HX := Lib.hid hX
  unfold Tm.v at hlk HLI
  simp only at hlk HLI HMM HWF ⊢
  obtain ⟨R, hR⟩ : ∃ R, R = rows X := ⟨_, rfl⟩
  rw [← hR] at HND HRL HMM ⊢
  have HR := Lib.hid hR
  obtain ⟨w1, hw1⟩ : ∃ w1, w1 = w.alloc (.cells #[.int .i64 a, .int .i64 h, .int .i64 l, .int .i64 s] 60) := ⟨_, rfl⟩
  have y0 := box_cell w #[.int .i64 a, .int .i64 h, .int .i64 l, .int .i64 s] 60 0 rfl
  have y1 := box_cell w #[.int .i64 a, .int .i64 h, .int .i64 l, .int .i64 s] 60 1 rfl
  have y2 := box_cell w #[.int .i64 a, .int .i64 h, .int .i64 l, .int .i64 s] 60 2 rfl
  have y3 := box_cell w #[.int .i64 a, .int .i64 h, .int .i64 l, .int .i64 s] 60 3 rfl
  have HO1 : Hid (Only (fun _ => False) w w1) := by rw [hw1]; exact Lib.hid ((Only.refl _ w).alloc _)
  clear hs j ht hwf hpl hmem hX hR hL
  go_enter Try.func18, Try.ntmps18
  go_upto_region 6 with (go_at_call 22; refine (none_p HS.out.blk).mono ?_; rintro e w' ⟨rfl, rfl⟩)
  have HLIw := Lib.hid (HLI.out w1)
  rw [hw1] at HLIw
  clear hlk hc
  go_upto_region 7 with (go_at_call 30; refine HLIw.out.mono ?_; rintro e w2 ⟨rfl, o2⟩; have HO2 := Lib.hid o2; clear o2)
  rw [← hw1] at HO2
  clear hw1 y0 y1 y2 y3 HLIw
  have HOa : Hid (Only (fun _ => False) w w2) := Lib.hid (HO1.out.trans HO2.out)
  have HS2 := Lib.hid (HS.out.only HOa.out (fun _ _ h => h))
  have hv := HS2.out.blk.val X HIX.out
  have hfz := HS2.out.blk.frozen (2 + X)
  have hKV := HS2.out.row X HIX.out
  rw [← HR.out] at hKV
  have hpos : 0 < R.length := List.length_pos_of_mem HMM.out
  obtain ⟨q, o, c, hV, hcc⟩ := Row.some_ hKV hpos
  have HCC := Lib.hid hcc
  rw [hV] at hv hKV
  have HKV := Lib.hid hKV
  obtain ⟨i, hi, hie⟩ := List.getElem_of_mem HMM.out
  have hge : R[i]? = some h := by rw [List.getElem?_eq_getElem hi, hie]
  have HGE := Lib.hid hge
  have hidx : Calls Try.prog 31 #[.slice (some ⟨q, o, none⟩) R.length c, .int .i64 h] w2 fun e w' => e = .returned (.int .i64 (i : Int)) ∧ w2 = w' := by
    have h1 := Try.slices_Index_int q o R.length c R h w2 (Nat.le_refl _) (by have := HRL.out; omega) (fun j hj => by
      have := Row.cell hKV j (ints_get R j hj)
      rw [this, getElem!_pos R.toArray j (by simpa using hj)]
      simp [List.getD, List.getElem?_eq_getElem hj])
    rw [Lib.idxOf_hit R R.length i h hi (Nat.le_refl _) (by simp [List.getD, hge]) (fun k hk => by
      have hn := List.nodup_iff_pairwise_ne.1 HND.out
      rw [List.pairwise_iff_getElem] at hn
      have := hn k i (by omega) hi hk
      rw [hie] at this
      simpa [List.getD, List.getElem?_eq_getElem (show k < R.length by omega)] using this)] at h1
    exact h1.mono fun _ _ h => ⟨h.1, h.2.symm⟩
  have HIDX := Lib.hid hidx
  have hdel := Try.slices_Delete_int q o c i (i + 1) R w2 (holds_ints hKV) HCC.out (Row.cap hKV) (by omega) (by omega)
  have hdel2 : Calls Try.prog 32 #[.slice (some ⟨q, o, none⟩) R.length c, .int .i64 (i : Int), .int .i64 ((i : Int) + 1)] w2 fun e w' => e = .returned (.slice (some ⟨q, o, none⟩) (R.length - (i + 1 - i)) c) ∧ Ks w' F (.slice (some ⟨q, o, none⟩) (R.length - (i + 1 - i)) c) (R.filter (fun x => decide (x ≠ h))) ∧ Only (fun k => k = q) w2 w' := hdel.mono (fun e w' hh => by
    obtain ⟨he, m, rfl⟩ := hh
    obtain ⟨k1, k2⟩ := del_row hKV HND.out hge m
    exact ⟨he, k1, k2⟩)
  have HDEL := Lib.hid hdel2
  have HVX : Hid (vals X = .slice (some ⟨q, o, none⟩) R.length c) := Lib.hid hV
  have hNb := HRL.out
  obtain ⟨M, hM⟩ : ∃ M, M = R.length := ⟨_, rfl⟩
  rw [← hM] at hv HIDX HDEL hi hNb HKV HVX
  obtain ⟨M2, hM2⟩ : ∃ M2, M2 = M - (i + 1 - i) := ⟨_, rfl⟩
  rw [← hM2] at HDEL
  have HM := Lib.hid hM
  clear hM2
  clear hidx hdel hdel2 hge hie hKV hcc hpos hM hV
  go_upto_region 8 with (go_at_call 31; refine HIDX.out.mono ?_; rintro e w' ⟨rfl, rfl⟩)
  obtain ⟨cs2, hcs2⟩ := HS2.out.blk.isBlk
  have HQG : Hid (g ≠ q) := Lib.hid (fun e => Ks.ne (by have := HS2.out.row X HIX.out; rw [HVX.out] at this; exact this) hcs2 (by decide) (by rw [e]; rfl))
  clear hcs2
  go_upto_region 9 with (go_at_call 32; refine HDEL.out.mono ?_; rintro e w3 ⟨rfl, k3, o3⟩; have HK3 := Lib.hid k3; have HO3 := Lib.hid o3; have hb3 := HS2.out.blk.only o3 HQG.out; have hv3 := hb3.val X HIX.out; have hf3 := hb3.frozen (2 + X); have HB3 := Lib.hid hb3; rw [HVX.out] at hv3; clear k3 o3 hb3)
  obtain ⟨w4, hw4⟩ : ∃ w4, w4 = w3.setCell ⟨g, 2 + X, none⟩ (.slice (some ⟨q, o, none⟩) M2 c) := ⟨_, rfl⟩
  rw [← hw4]
  have og : Only (fun k => k = g) w3 w4 := by rw [hw4]; exact (Only.refl (fun k => k = g) w3).setCell (p := ⟨g, 2 + X, none⟩) (.inl rfl) _
  have hFq : F q := (Row.own HK3.out (k := q) rfl).1
  have hos : Only F w2 w4 := (HO3.out.mono (fun k hk => by rw [hk]; exact hFq)).trans (og.mono (fun k hk => by rw [hk]; exact HS.out.fg))
  obtain ⟨cs2, hcs2⟩ := HS2.out.blk.isBlk
  obtain ⟨cs3, hcs3⟩ := HB3.out.isBlk
  obtain ⟨esm, clm, hmb⟩ := HS2.out.map.isMap
  have hgb := HS2.out.map.ne hcs2
  have hqb : b ≠ q := fun e => Row.neMap HKV.out hmb (by rw [e]; rfl)
  have hb4 : WB w4 g b n last (upd vals X (.slice (some ⟨q, o, none⟩) M2 c)) := by rw [hw4]; exact HB3.out.set X HIX.out _
  have hm4 : TM w4 b L := (HS2.out.map.only HO3.out hqb).only og (fun h => hgb h.symm)
  have hr4 : ∀ i, i < 257 → Ks w4 F (upd vals X (.slice (some ⟨q, o, none⟩) M2 c) i) (upd rows X (R.filter (fun x => decide (x ≠ h))) i) := fun i hi => by
    by_cases e : i = X
    · subst e
      rw [upd_same, upd_same]
      exact Row.only HK3.out og (fun k hk e => Ks.ne HK3.out hcs3 (by decide) (by rw [hk, e]))
    · rw [upd_other _ _ e, upd_other _ _ e]
      have h0 := HS2.out.row i hi
      refine Row.only (Row.only h0 HO3.out (fun k hk h3 => HS2.out.ap i hi X HIX.out e k hk (by rw [HVX.out, h3]; rfl))) og (fun k hk e2 => ?_)
      exact Ks.ne h0 hcs2 (by decide) (by rw [hk, e2])
  have hap4 : ∀ i, i < 257 → ∀ j, j < 257 → i ≠ j → ∀ k, (upd vals X (.slice (some ⟨q, o, none⟩) M2 c) i).ownBlock = some k → (upd vals X (.slice (some ⟨q, o, none⟩) M2 c) j).ownBlock ≠ some k := by
    have hx : ∀ k, (Value.slice (some ⟨q, o, none⟩) M2 c).ownBlock = some k → (vals X).ownBlock = some k := fun k hk => by rw [HVX.out]; exact hk
    intro i hi j hj hij k hk hk2
    by_cases e : i = X
    · subst e
      rw [upd_same] at hk
      rw [upd_other _ _ (fun e => hij e.symm)] at hk2
      exact HS2.out.ap i hi j hj hij k (hx k hk) hk2
    · rw [upd_other _ _ e] at hk
      by_cases e2 : j = X
      · subst e2
        rw [upd_same] at hk2
        exact HS2.out.ap i hi j hj hij k hk (hx k hk2)
      · rw [upd_other _ _ e2] at hk2
        exact HS2.out.ap i hi j hj hij k hk hk2
  have hs4 : WS w4 g b F n last L (upd vals X (.slice (some ⟨q, o, none⟩) M2 c)) (upd rows X (R.filter (fun x => decide (x ≠ h)))) :=
    ⟨hb4, hm4, hr4, hap4, HS.out.fg, HS.out.fb, fun k hk => Nat.lt_of_lt_of_le (HS2.out.flt k hk) hos.size⟩
  have HS4 := Lib.hid hs4
  have HO4 : Hid (Only F w w4) := Lib.hid ((HOa.out.mono (fun _ h => h.elim)).trans hos)
  have hm0 := hb4.mapc
  have HGB := Lib.hid hgb
  obtain ⟨D, hown, hhd⟩ := hm4
  have HHD := Lib.hid hhd
  have HKE := Lib.hid (keyI HWF.out)
  clear hw4 og hFq hos hcs2 hcs3 hmb hgb hqb hb4 hr4 hap4 hs4 hhd hv hfz hv3 hf3 HS2 HKV HK3 HB3
  go_wp2_with (at_delete; go_loud (refine wpList_delete_own _ rfl _ _ 53 3 rfl 60 law Try.underlying53 _ b _ D rfl hown _ (.int .i64 h) rfl HKE.out ?_; intro w5 hown5 hturn; have HT5 := Lib.hid hown5; have HU5 := Lib.hid hturn; clear hown5 hturn))
  go_ret
  have o5 : Only (fun k => k = b) w4 w5 := (Only.refl (fun k => k = b) w4).grown HU5.out.grown (fun k hk => .inl (by simpa using hk.symm))
  obtain ⟨cs4, hcs4⟩ := HS4.out.blk.isBlk
  obtain ⟨es4, cl4, hm4⟩ := HS4.out.map.isMap
  exact ⟨rfl, F, _, ⟨HS4.out.blk.only o5 HGB.out, tight HT5.out (HHD.out.del h HWF.out), fun i hi => Row.only (HS4.out.row i hi) o5 (fun k hk e => Row.neMap (HS4.out.row i hi) hm4 (by rw [hk, e])), HS4.out.ap, HS4.out.fg, HS4.out.fb, fun k hk => Nat.lt_of_lt_of_le (HS4.out.flt k hk) o5.size⟩, fun k hk => .inl hk, HO4.out.trans (o5.mono (fun k hk => by rw [hk]; exact HS4.out.fb))⟩

end Go.Proofs.Ytkjokpmlnnjmoaa.Wh

/- Wheel: Advance. -/
import Derived.Test.YtkjokpmlnnjmoaaWhT
set_option linter.unusedVariables false
set_option linter.unusedSimpArgs false
namespace Go.Proofs.Ytkjokpmlnnjmoaa.Wh
open Go.RowKit Go.Maps Go.Proofs.Ytkjokpmlnnjmoaa.Base Go.Proofs.Ytkjokpmlnnjmoaa.Rws Go.Proofs.YtkjokpmlnnjmoaaW.PrintWords Go.Proofs.YtkjokpmlnnjmoaaW.PrintMore
attribute [local go_sem] max2_mx min2_mn max_two min_two max_three min_three max_four min_four

theorem Ts.all {W : World} {P P2 : Nat → Prop} {v v2 : Value} {L L2 : List Tm} (h : Ts W P v L) (h2 : Ts W P2 v2 L2) (hP : ∀ k, W.heap.size ≤ k → P k) (hb : L.length + L2.length ≤ 100000) (ty : TypeId) :
    ∃ v1 w1, (Builtin.append_ #[61, 61] ty #[v, v2]).run Try.prog W = .ok v1 w1 ∧ Ts w1 P v1 (L ++ L2) ∧ Only (fun k => v.ownBlock = some k) W w1 := by
  by_cases hn : L2.length = 0
  · obtain ⟨A, c, hv, _⟩ := Row.form h2
    rw [hn] at hv
    have h0 : L2 = [] := List.length_eq_zero_iff.1 hn
    rw [hv, h0, List.append_nil]
    exact ⟨v, W, Row.app0 h Try.underlying61 info60 A c, h, Only.refl _ _⟩
  · obtain ⟨q, o, c, hv, hc⟩ := Row.some_ h2 (by omega)
    unfold Ts at h2
    rw [hv] at h2 ⊢
    obtain ⟨v1, w1, hr, hR, ho⟩ := Row.app (ty := ty) h Try.underlying61 info60 (by rfl) hP ⟨q, o, none⟩ L2.length c (L2.flatMap encT) (flat_len L2) (fun j u hu => by
      rw [Addr.add_lit]
      exact Row.cell h2 j hu) (fun u hu => by
      obtain ⟨t, _, ht⟩ := List.mem_flatMap.1 hu
      simp [encT] at ht
      rcases ht with rfl | rfl | rfl | rfl <;> rfl) (by omega) hb (by omega)
    refine ⟨v1, w1, hr, ?_, ho⟩
    unfold Ts
    rw [List.length_append, List.flatMap_append]
    exact hR

theorem due_split {L out : List Tm} {n : Int} (h : out.Perm (L.filter (fun t => decide (t.at_ ≤ n)))) : ((out ++ L.filter (fun t => decide (n < t.at_))).map key).Perm (L.map key) := by
  refine (List.Perm.append_right _ h).map key |>.trans ?_
  have h2 := split_perm L (fun t => decide (t.at_ ≤ n))
  have e : L.filter (fun x => !decide (x.at_ ≤ n)) = L.filter (fun t => decide (n < t.at_)) := List.filter_congr (fun t _ => by
    by_cases h : t.at_ ≤ n
    · have h' : ¬ n < t.at_ := by omega
      simp [h, h']
    · have h' : n < t.at_ := by omega
      simp [h, h'])
  rw [e] at h2
  exact h2.map key

theorem adv_end {fired L : List Tm} {K : List (Int × Int)} {e : Int} (pm : ((fired ++ L).map key).Perm K) (hf : ∀ t ∈ fired, t.at_ ≤ e) (hl : ∀ t ∈ L, e < t.at_) : sortK (fired.map key) = sortK (K.filter (fun p => decide (p.1 ≤ e))) ∧ (L.map key).Perm (restK e K) := by
  constructor
  · refine sortK_eq ?_
    have h := pm.filter (fun p => decide (p.1 ≤ e))
    rw [List.map_append, List.filter_append, keys_split, keys_split, List.filter_eq_self.2 (fun t ht => decide_eq_true (hf t ht)), List.filter_eq_nil_iff.2 (fun t ht => by have := hl t ht; simp; omega), List.map_nil, List.append_nil] at h
    exact h
  · have h := pm.filter (fun p => decide (e < p.1))
    rw [List.map_append, List.filter_append, keys_rest, keys_rest, List.filter_eq_self.2 (fun t ht => decide_eq_true (hl t ht)), List.filter_eq_nil_iff.2 (fun t ht => by have := hf t ht; simp; omega), List.map_nil, List.nil_append] at h
    exact h

theorem WS.atNow {w : World} {g b : Nat} {F : Nat → Prop} {n last : Int} {L : List Tm} {vals : Nat → Value} {rows : Nat → List Int} (h : WS w g b F n last L vals rows) (m : Int) : WS (w.setCell ⟨g, 0, none⟩ (.int .i64 m)) g b F m last L vals rows ∧ Only (fun k => k = g) w (w.setCell ⟨g, 0, none⟩ (.int .i64 m)) := by
  have ho1 : Only (fun k => k = g) w (w.setCell ⟨g, 0, none⟩ (.int .i64 m)) := (Only.refl (fun k => k = g) w).setCell (p := ⟨g, 0, none⟩) (.inl rfl) _
  obtain ⟨cs5, hcs5⟩ := h.blk.isBlk
  have hgb := h.map.ne hcs5
  exact ⟨⟨h.blk.setNow _, h.map.only ho1 (fun e => hgb e.symm), fun i hi => Row.only (h.row i hi) ho1 (fun q hq e => Ks.ne (h.row i hi) hcs5 (by decide) (by rw [hq, e])), h.ap, h.fg, h.fb, fun k hk => Nat.lt_of_lt_of_le (h.flt k hk) ho1.size⟩, ho1⟩

/-- A list is taken off: its block is no longer the wheel's. -/
theorem WS.take {w : World} {g b : Nat} {F : Nat → Prop} {n last : Int} {L : List Tm} {vals : Nat → Value} {rows : Nat → List Int} (h : WS w g b F n last L vals rows) (i : Nat) (hi : i < 257) : WS (w.setCell ⟨g, 2 + i, none⟩ (.slice none 0 0)) g b (fun k => F k ∧ (vals i).ownBlock ≠ some k) n last L (upd vals i (.slice none 0 0)) (upd rows i []) ∧ Only (fun k => k = g) w (w.setCell ⟨g, 2 + i, none⟩ (.slice none 0 0)) := by
  have ho1 : Only (fun k => k = g) w (w.setCell ⟨g, 2 + i, none⟩ (.slice none 0 0)) := (Only.refl (fun k => k = g) w).setCell (p := ⟨g, 2 + i, none⟩) (.inl rfl) _
  obtain ⟨cs5, hcs5⟩ := h.blk.isBlk
  obtain ⟨es6, cl6, hm6⟩ := h.map.isMap
  have hgb := h.map.ne hcs5
  refine ⟨⟨h.blk.set i hi _, h.map.only ho1 (fun e => hgb e.symm), fun j hj => ?_, fun j hj k hk hjk q hq hq2 => ?_, ⟨h.fg, Ks.ne (h.row i hi) hcs5⟩, ⟨h.fb, Row.neMap (h.row i hi) hm6⟩, fun k hk => Nat.lt_of_lt_of_le (h.flt k hk.1) ho1.size⟩, ho1⟩
  · by_cases e : j = i
    · subst e
      rw [upd_same, upd_same]
      exact Row.nil _ _ _ _
    · rw [upd_other _ _ e, upd_other _ _ e]
      have h0 := h.row j hj
      exact Row.to (Row.only h0 ho1 (fun q hq e => Ks.ne h0 hcs5 (by decide) (by rw [hq, e]))) (fun k hk => ⟨(Row.own h0 hk).1, h.ap j hj i hi e k hk⟩)
  · by_cases e : j = i
    · subst e
      rw [upd_same] at hq
      simp [Value.ownBlock] at hq
    · rw [upd_other _ _ e] at hq
      by_cases e2 : k = i
      · subst e2
        rw [upd_same] at hq2
        simp [Value.ownBlock] at hq2
      · rw [upd_other _ _ e2] at hq2
        exact h.ap j hj k hk hjk q hq hq2

theorem drop_step {R : List Int} {k : Nat} {h : Int} (hn : R.Nodup) (hk : R[k]? = some h) : R.drop k = h :: R.drop (k + 1) ∧ (R.drop k).filter (fun x => decide (x ≠ h)) = R.drop (k + 1) := by
  obtain ⟨hlt, hh⟩ := List.getElem?_eq_some_iff.1 hk
  have hd : R.drop k = h :: R.drop (k + 1) := by rw [← hh]; exact List.drop_eq_getElem_cons hlt
  refine ⟨hd, ?_⟩
  have hn2 : (R.drop k).Nodup := hn.sublist (List.drop_sublist k R)
  rw [hd] at hn2 ⊢
  rw [List.nodup_cons] at hn2
  rw [List.filter_cons_of_neg (by simp)]
  exact List.filter_eq_self.2 (fun x hx => decide_eq_true (fun e => hn2.1 (e ▸ hx)))

/-- What Advance leaves. -/
def AdvPost (w : World) (g b : Nat) (F : Nat → Prop) (last e : Int) (K : List (Int × Int)) (en : Ending) (w' : World) : Prop :=
  ∃ v F' vals' rows' L', en = .returned v ∧ Ks w' (fun k => w.heap.size ≤ k ∧ ¬ F' k) v (outK e K) ∧ WS w' g b F' e last L' vals' rows' ∧ J e L' rows' [] ∧ (L'.map key).Perm (restK e K) ∧ (∀ k, F' k → F k ∨ w.heap.size ≤ k) ∧ Only F w w'

/-- The loop's state. -/
structure AdvL (w wr : World) (g b : Nat) (F F' : Nat → Prop) (n last to_ : Int) (K : List (Int × Int)) (v : Value) (fired L : List Tm) (vals : Nat → Value) (rows : Nat → List Int) : Prop where
  ts : Ts wr (fun k => w.heap.size ≤ k ∧ ¬ F' k) v fired
  ws : WS wr g b F' n last L vals rows
  j : J n L rows []
  lt : ∀ t ∈ L, n < t.at_
  le : n ≤ to_
  fi : ∀ t ∈ fired, t.at_ ≤ n
  pm : ((fired ++ L).map key).Perm K
  ff : ∀ k, F' k → F k ∨ w.heap.size ≤ k
  on : Only F w wr

set_option maxHeartbeats 8000000 in
set_option maxRecDepth 100000 in
theorem adv_p {w : World} {g b : Nat} {F : Nat → Prop} {n last : Int} {L : List Tm} {vals : Nat → Value} {rows : Nat → List Int} (x : Int) (hs : WS w g b F n last L vals rows) (j : J n L rows []) (hL : L.length ≤ 4096) {K : List (Int × Int)} (hK : (L.map key).Perm K) {to_ : Int} (hto : to_ = mx (cl x) n) :
    Calls Try.prog 12 #[.pointer (some ⟨g, 0, none⟩), .int .i64 x] w (AdvPost w g b F last to_ K) := by
  have HS := Lib.hid hs
  have HJ := Lib.hid j
  have HX : Hid (∀ w, Calls Try.prog 21 #[.int .i64 x] w fun e w' => e = .returned (.int .i64 (cl x)) ∧ w' = w) := Lib.hid (fun w => (clamp_p x w).mono fun _ _ h => ⟨h.1, h.2.symm⟩)
  have hcb := cl_bounds x
  obtain ⟨y, hy⟩ : ∃ y, y = cl x := ⟨_, rfl⟩
  rw [← hy] at HX hcb hto
  have HTB : Hid (n ≤ to_ ∧ 0 ≤ to_ ∧ to_ ≤ 1125899906842624) := Lib.hid (by have := j.n0; rw [hto]; unfold mx; split <;> omega)
  have HTO := Lib.hid hto
  have z0 := hs.blk.now
  have HL := Lib.hid hL
  have HKK := Lib.hid hK
  have HKL : Hid (K.length ≤ 4096) := Lib.hid (by rw [← hK.length_eq, List.length_map]; exact hL)
  clear hs j hy hcb hL hK hto
  go_enter Try.func12, Try.ntmps12
  go_wp2_with (go_at_call 22; refine (none_p HS.out.blk).mono ?_; rintro e w' ⟨rfl, rfl⟩)
  go_still_tail 6, (by kernel_rfl)
  still_call (HX.out _)
  repeat still_step
  try refine wpStill_nil ?_
  change wpList _ _ _ _ _ w.drew
  go_upto_region 4 with fail
  obtain ⟨w1, hw1⟩ : ∃ w1, w1 = w.drew := ⟨_, rfl⟩
  rw [← hw1]
  have HO1 : Hid (Only F w w1) := by rw [hw1]; exact Lib.hid (Only.refl _ w).drew
  have HSZ1 : Hid (w1.heap.size = w.heap.size) := by rw [hw1]; exact Lib.hid rfl
  have HS1 : Hid (WS w1 g b F n last L vals rows) := by rw [hw1]; exact Lib.hid (HS.out.only ((Only.refl (fun _ => False) w).drew) (fun _ _ h => h))
  clear hw1 z0
  rw [← HTO.out]
  have HCN : Hid (cl n = n) := Lib.hid (cl_same n HJ.out.n0.1 HJ.out.n0.2)
  go_wp2_with (go_at_call 24; refine (due_p HS1.out HJ.out HCN.out (fun i => Nat.le_trans (HJ.out.len i) (Nat.le_trans HL.out (by decide)))).mono ?_; rintro e w2 ⟨v, out, vals2, rfl, ht, hpm, hs2, ho2⟩)
  have HA : Hid (AdvL w w2 g b F F n last to_ K v out (L.filter (fun t => decide (n < t.at_))) vals2 (upd rows (n % 64).toNat [])) := Lib.hid
    ⟨Row.to ht (fun k hk => ⟨by have := (Row.own ht hk).1; have h2 := HSZ1.out; omega, fun hF => by have := HS1.out.flt k hF; have h2 := (Row.own ht hk).1; omega⟩), hs2, HJ.out.due.2,
      fun t ht => of_decide_eq_true (List.mem_filter.1 ht).2, HTB.out.1, fun t ht => of_decide_eq_true (List.mem_filter.1 (hpm.mem_iff.1 ht)).2,
      (due_split hpm).trans HKK.out, fun k hk => .inl hk, HO1.out.trans ho2⟩
  clear ht hpm hs2 ho2 HS1 HJ HKK
  go_loopw [5, 6, 7, 8, 9, 11] (fun v5 _ _ _ _ _ wr => ∃ (n' : Int) (F' : Nat → Prop) (fired L' : List Tm) (vals' : Nat → Value) (rows' : Nat → List Int), Hid (AdvL w wr g b F F' n' last to_ K v5 fired L' vals' rows')) (fun _ _ _ _ _ _ wr => (to_ - (match wr.cell? ⟨g, 0, none⟩ with | some u => RowKit.intOf u | none => 0)).toNat)
  case atStart => exact ⟨n, F, out, _, vals2, _, HA⟩
  case round =>
    obtain ⟨n', F', fired, L', vals', rows', HR⟩ := hrel
    have HCN' : Hid (cl n' = n') := Lib.hid (cl_same n' HR.out.j.n0.1 HR.out.j.n0.2)
    have HLL : Hid (∀ i, (rows' i).length ≤ 10000) := Lib.hid (fun i => by
      have h1 := HR.out.j.len i
      have h2 := HR.out.pm.length_eq
      have h3 := HKL.out
      simp only [List.length_map, List.length_append] at h2
      omega)
    by_cases hL' : L' = []
    · have HNX : Hid (Calls Try.prog 25 #[.pointer (some ⟨g, 0, none⟩)] wr fun e w' => e = .returned (.tuple #[.int .i64 0, .pointer none, .bool false]) ∧ Only (fun _ => False) wr w') := Lib.hid ((next_p HR.out.ws HR.out.j HCN'.out HR.out.lt HLL.out).mono (fun e w' h => by
        rcases h with ⟨ho, ⟨_, he⟩ | ⟨x', i, _, _, _, _, _, _, hne, _⟩⟩
        · exact ⟨he, ho⟩
        · exfalso
          obtain ⟨h, hm⟩ := List.exists_mem_of_ne_nil _ hne
          obtain ⟨_, t, ht, _⟩ := (HR.out.j.mem _ _).1 hm
          rw [hL'] at ht
          cases ht))
      have HNIL := Lib.hid hL'
      clear hL'
      have HE : Hid (J to_ L' rows' [] ∧ ∀ t ∈ L', to_ < t.at_) := Lib.hid (by
        have h0 := HNIL.out
        refine ⟨HR.out.j.stay HTB.out.2 (fun t ht => ?_), fun t ht => ?_⟩ <;> rw [h0] at ht <;> cases ht)
      go_upto_region 16 with (go_at_call 25; refine HNX.out.mono ?_; rintro e w3 ⟨rfl, ho3⟩; have HO3 := Lib.hid ho3; clear ho3)
      obtain ⟨A, cN, hu5, _⟩ := Row.form HR.out.ts
      obtain ⟨N, hN⟩ : ∃ N, N = fired.length := ⟨_, rfl⟩
      rw [← hN] at hu5
      subst hu5
      have HN := Lib.hid hN
      clear hN
      have HS3 := Lib.hid (HR.out.ws.only HO3.out (fun _ _ h => h))
      have HT3 := Lib.hid (Ts.only HR.out.ts HO3.out (fun _ _ h => h))
      have z3 := HS3.out.blk.now
      have f3 := HS3.out.blk.frozen 0
      obtain ⟨w4, hw4⟩ : ∃ w4, w4 = w3.setCell ⟨g, 0, none⟩ (.int .i64 to_) := ⟨_, rfl⟩
      have HW4 : Hid (WS w4 g b F' to_ last L' vals' rows' ∧ Only (fun k => k = g) w3 w4) := by rw [hw4]; exact Lib.hid (HS3.out.atNow to_)
      go_upto_region 17 with fail
      rw [← hw4]
      clear hw4 z3 f3
      have HT4 : Hid (Ts w4 (fun k => w.heap.size ≤ k ∧ ¬ F' k) (.slice A N cN) fired) := Lib.hid (Ts.only HT3.out HW4.out.2 (fun q hq e => (Row.own HT3.out hq).1.2 (by rw [e]; exact HS3.out.fg)))
      have HSO := Lib.hid (sort_p HT4.out (by have h1 := HR.out.pm.length_eq; have h2 := HKL.out; simp only [List.length_map, List.length_append] at h1; omega))
      go_wp2_with (go_at_call 26; refine HSO.out.mono ?_; rintro e w5 ⟨rfl, out', ht5, hk5, ho5⟩; have HT5 := Lib.hid ht5; have HK5 := Lib.hid hk5; have HO5 := Lib.hid ho5; clear ht5 hk5 ho5)
      have HNO : Hid (N = out'.length) := Lib.hid (by have h1 := congrArg List.length HK5.out; rw [(sortK_perm _).length_eq, List.length_map, List.length_map] at h1; rw [HN.out, h1])
      have HNB : Hid (N ≤ 4096) := Lib.hid (by have h1 := HR.out.pm.length_eq; have h2 := HKL.out; have h3 := HN.out; simp only [List.length_map, List.length_append] at h1; omega)
      go_loopw [12, 75, 14] (fun v12 v75 _ wr => ∃ (k : Nat), v75 = .int .i64 (k : Int) ∧ k ≤ N ∧ Hid (Ks wr (fun k => w5.heap.size ≤ k) v12 ((out'.take k).map Tm.h)) ∧ Hid (Only (fun _ => False) w5 wr)) (fun _ v75 _ _ => N - (RowKit.intOf v75).toNat)
      case atStart => exact ⟨0, rfl, Nat.zero_le _, Lib.hid (Row.nil _ _ _ _), Lib.hid (Only.refl _ _)⟩
      case round =>
        obtain ⟨k, rfl, hk, HKR, HOR⟩ := hrel
        have hgo : k < N ∨ k = N := by omega
        rcases hgo with hlt | rfl
        · have hlt' : (k : Int) < (N : Int) := by omega
          have hNb := HNB.out
          have hkr : k < out'.length := by rw [← HNO.out]; exact hlt
          have hge : out'[k]? = some out'[k] := List.getElem?_eq_getElem hkr
          obtain ⟨t, hte⟩ : ∃ t, t = out'[k] := ⟨_, rfl⟩
          rw [← hte] at hge
          obtain ⟨a, h, l, s⟩ := t
          have HGE := Lib.hid hge
          have hTr := Ts.only HT5.out HOR.out (fun _ _ h => h)
          unfold Ts at hTr
          rw [← HNO.out] at hTr
          obtain ⟨q2, o2, c2, he, hcc⟩ := Row.some_ hTr (by omega)
          injection he with e1 e2 e3
          subst e1 e3
          have hx0 : wr.cell? ⟨q2, o2 + k * 4, none⟩ = some (.int .i64 a) := Row.cell hTr (k * 4) (by have := encT_at out' k 0 _ hge (by decide); exact this)
          have hx1 : wr.cell? ⟨q2, o2 + k * 4 + 1, none⟩ = some (.int .i64 h) := Row.cell hTr (k * 4 + 1) (by have := encT_at out' k 1 _ hge (by decide); exact this)
          have hx2 : wr.cell? ⟨q2, o2 + k * 4 + 2, none⟩ = some (.int .i64 l) := Row.cell hTr (k * 4 + 2) (by have := encT_at out' k 2 _ hge (by decide); exact this)
          have hx3 : wr.cell? ⟨q2, o2 + k * 4 + 3, none⟩ = some (.int .i64 s) := Row.cell hTr (k * 4 + 3) (by have := encT_at out' k 3 _ hge (by decide); exact this)
          have y1 := box_cell wr #[.int .i64 a, .int .i64 h, .int .i64 l, .int .i64 s] 60 1 rfl
          have hOa : Only (fun _ => False) wr (wr.alloc (.cells #[.int .i64 a, .int .i64 h, .int .i64 l, .int .i64 s] 60)) := (Only.refl _ wr).alloc _
          have hKa : Ks (wr.alloc (.cells #[.int .i64 a, .int .i64 h, .int .i64 l, .int .i64 s] 60)) (fun k => w5.heap.size ≤ k) u12 ((out'.take k).map Tm.h) := Row.only HKR.out hOa (fun _ _ h => h)
          obtain ⟨v2, w2, hr2, t2, p2⟩ := Ks.app hKa (fun k hk => by have h1 := HOR.out.size; have h2 := hOa.size; omega) (by rw [List.length_map, List.length_take]; omega) h 22
          have hsz : (wr.alloc (.cells #[.int .i64 a, .int .i64 h, .int .i64 l, .int .i64 s] 60)).heap.size = wr.heap.size + 1 := by show (wr.heap.push _).size = _; simp
          rw [hsz] at hr2
          have HR2 := Lib.hid hr2
          have HT2 := Lib.hid t2
          have HP2 : Hid (Only (fun _ => False) w5 w2) := Lib.hid ((HOR.out.trans hOa).then_ p2 (fun k hk => .inr (Row.own hKa hk).1))
          clear hge hTr hcc hOa hKa hr2 t2 p2 hte hkr hsz
          go_wp2_with (first
            | ((with_reducible refine gate_builtin (b := .append) (xs := #[.tmp 79, .tmp 82]) rfl ?_); at_builtin; go_loud (refine Go.Lib.wpList_append_run_sl _ rfl (.tmp 79) (.tmp 82) 22 rfl _ _ rfl rfl HR2.out ?_)))
          go_roundw
          case rel =>
            refine ⟨k + 1, by go_num, by omega, Lib.hid ?_, HP2⟩
            rw [List.take_add_one, HGE.out, List.map_append]
            exact HT2.out
          case measure => simp [RowKit.intOf]; omega
        · have hge : ¬ (k : Int) < k := by omega
          go_wp2
          go_ret
          have hend := adv_end HR.out.pm (fun t ht => Int.le_trans (HR.out.fi t ht) HR.out.le) HE.out.2
          have hs5 := HW4.out.1.only HO5.out (fun q hq e => (Row.own HT4.out e).1.2 hq)
          have hsz5 : w.heap.size ≤ w5.heap.size := Nat.le_trans HR.out.on.size (Nat.le_trans HO3.out.size (Nat.le_trans HW4.out.2.size HO5.out.size))
          refine ⟨u12, F', vals', rows', L', rfl, ?_, hs5.only HOR.out (fun _ _ h => h), HE.out.1, hend.2, HR.out.ff, ((((HR.out.on.trans (HO3.out.mono (fun _ h => h.elim))).then_ HW4.out.2 (fun q hq => by rw [hq]; exact HR.out.ff g HR.out.ws.fg)).then_ HO5.out (fun q hq => .inr (Row.own HT4.out hq).1.1)).trans (HOR.out.mono (fun _ h => h.elim)))⟩
          have ho : (out'.take k).map Tm.h = outK to_ K := by
            rw [HNO.out, List.take_length]
            unfold outK
            rw [← hend.1, ← HK5.out, List.map_map]
            rfl
          have hk := HKR.out
          rw [ho] at hk
          exact Row.to hk (fun q hq => ⟨Nat.le_trans hsz5 (Row.own hk hq).1, fun hF => by have h1 := hs5.flt q hF; have h2 := (Row.own hk hq).1; omega⟩)
    · have HNX : Hid (Calls Try.prog 25 #[.pointer (some ⟨g, 0, none⟩)] wr fun e w' => ∃ (x' : Int) (i : Nat), e = .returned (.tuple #[.int .i64 x', .pointer (some ⟨g, 2 + i, none⟩), .bool true]) ∧ Only (fun _ => False) wr w' ∧ i < 257 ∧ n' < x' ∧ x' ≤ 1125899906842624 ∧ (∀ t ∈ L', x' ≤ t.at_) ∧ J x' L' (upd rows' i []) (rows' i) ∧ rows' i ≠ [] ∧ ∀ t ∈ L', ∀ m : Int, n' ≤ m → m < x' → place m t.at_ = place n' t.at_) := Lib.hid ((next_p HR.out.ws HR.out.j HCN'.out HR.out.lt HLL.out).mono (fun e w' h => by
        rcases h with ⟨ho, ⟨h, _⟩ | ⟨x', i, h1, h2, h3, h4, h5, h6, h7, h8⟩⟩
        · exact absurd h hL'
        · exact ⟨x', i, h2, ho, h1, h3, h4, h5, h6, h7, h8⟩))
      clear hL'
      go_upto_region 6 with (go_at_call 25; refine HNX.out.mono ?_; rintro e w3 ⟨x', i, rfl, ho3, hnx⟩; have HO3 := Lib.hid ho3; have HX3 := Lib.hid hnx; clear ho3 hnx)
      by_cases hx : to_ < x'
      · have hd : decide (to_ < x') = true := decide_eq_true hx
        have HE : Hid (J to_ L' rows' [] ∧ ∀ t ∈ L', to_ < t.at_) := Lib.hid (by
          obtain ⟨h1, h2, h3, h4, h5, h6, h7⟩ := HX3.out
          exact ⟨HR.out.j.stay HTB.out.2 (fun t ht => h7 t ht to_ HR.out.le hx), fun t ht => by have := h4 t ht; omega⟩)
        go_upto_region 16 with fail
        obtain ⟨A, cN, hu5, _⟩ := Row.form HR.out.ts
        obtain ⟨N, hN⟩ : ∃ N, N = fired.length := ⟨_, rfl⟩
        rw [← hN] at hu5
        subst hu5
        have HN := Lib.hid hN
        clear hN
        have HS3 := Lib.hid (HR.out.ws.only HO3.out (fun _ _ h => h))
        have HT3 := Lib.hid (Ts.only HR.out.ts HO3.out (fun _ _ h => h))
        have z3 := HS3.out.blk.now
        have f3 := HS3.out.blk.frozen 0
        obtain ⟨w4, hw4⟩ : ∃ w4, w4 = w3.setCell ⟨g, 0, none⟩ (.int .i64 to_) := ⟨_, rfl⟩
        have HW4 : Hid (WS w4 g b F' to_ last L' vals' rows' ∧ Only (fun k => k = g) w3 w4) := by rw [hw4]; exact Lib.hid (HS3.out.atNow to_)
        go_upto_region 17 with fail
        rw [← hw4]
        clear hw4 z3 f3
        have HT4 : Hid (Ts w4 (fun k => w.heap.size ≤ k ∧ ¬ F' k) (.slice A N cN) fired) := Lib.hid (Ts.only HT3.out HW4.out.2 (fun q hq e => (Row.own HT3.out hq).1.2 (by rw [e]; exact HS3.out.fg)))
        have HSO := Lib.hid (sort_p HT4.out (by have h1 := HR.out.pm.length_eq; have h2 := HKL.out; simp only [List.length_map, List.length_append] at h1; omega))
        go_wp2_with (go_at_call 26; refine HSO.out.mono ?_; rintro e w5 ⟨rfl, out', ht5, hk5, ho5⟩; have HT5 := Lib.hid ht5; have HK5 := Lib.hid hk5; have HO5 := Lib.hid ho5; clear ht5 hk5 ho5)
        have HNO : Hid (N = out'.length) := Lib.hid (by have h1 := congrArg List.length HK5.out; rw [(sortK_perm _).length_eq, List.length_map, List.length_map] at h1; rw [HN.out, h1])
        have HNB : Hid (N ≤ 4096) := Lib.hid (by have h1 := HR.out.pm.length_eq; have h2 := HKL.out; have h3 := HN.out; simp only [List.length_map, List.length_append] at h1; omega)
        go_loopw [12, 75, 14] (fun v12 v75 _ wr => ∃ (k : Nat), v75 = .int .i64 (k : Int) ∧ k ≤ N ∧ Hid (Ks wr (fun k => w5.heap.size ≤ k) v12 ((out'.take k).map Tm.h)) ∧ Hid (Only (fun _ => False) w5 wr)) (fun _ v75 _ _ => N - (RowKit.intOf v75).toNat)
        case atStart => exact ⟨0, rfl, Nat.zero_le _, Lib.hid (Row.nil _ _ _ _), Lib.hid (Only.refl _ _)⟩
        case round =>
          obtain ⟨k, rfl, hk, HKR, HOR⟩ := hrel
          have hgo : k < N ∨ k = N := by omega
          rcases hgo with hlt | rfl
          · have hlt' : (k : Int) < (N : Int) := by omega
            have hNb := HNB.out
            have hkr : k < out'.length := by rw [← HNO.out]; exact hlt
            have hge : out'[k]? = some out'[k] := List.getElem?_eq_getElem hkr
            obtain ⟨t, hte⟩ : ∃ t, t = out'[k] := ⟨_, rfl⟩
            rw [← hte] at hge
            obtain ⟨a, h, l, s⟩ := t
            have HGE := Lib.hid hge
            have hTr := Ts.only HT5.out HOR.out (fun _ _ h => h)
            unfold Ts at hTr
            rw [← HNO.out] at hTr
            obtain ⟨q2, o2, c2, he, hcc⟩ := Row.some_ hTr (by omega)
            injection he with e1 e2 e3
            subst e1 e3
            have hx0 : wr.cell? ⟨q2, o2 + k * 4, none⟩ = some (.int .i64 a) := Row.cell hTr (k * 4) (by have := encT_at out' k 0 _ hge (by decide); exact this)
            have hx1 : wr.cell? ⟨q2, o2 + k * 4 + 1, none⟩ = some (.int .i64 h) := Row.cell hTr (k * 4 + 1) (by have := encT_at out' k 1 _ hge (by decide); exact this)
            have hx2 : wr.cell? ⟨q2, o2 + k * 4 + 2, none⟩ = some (.int .i64 l) := Row.cell hTr (k * 4 + 2) (by have := encT_at out' k 2 _ hge (by decide); exact this)
            have hx3 : wr.cell? ⟨q2, o2 + k * 4 + 3, none⟩ = some (.int .i64 s) := Row.cell hTr (k * 4 + 3) (by have := encT_at out' k 3 _ hge (by decide); exact this)
            have y1 := box_cell wr #[.int .i64 a, .int .i64 h, .int .i64 l, .int .i64 s] 60 1 rfl
            have hOa : Only (fun _ => False) wr (wr.alloc (.cells #[.int .i64 a, .int .i64 h, .int .i64 l, .int .i64 s] 60)) := (Only.refl _ wr).alloc _
            have hKa : Ks (wr.alloc (.cells #[.int .i64 a, .int .i64 h, .int .i64 l, .int .i64 s] 60)) (fun k => w5.heap.size ≤ k) u12 ((out'.take k).map Tm.h) := Row.only HKR.out hOa (fun _ _ h => h)
            obtain ⟨v2, w2, hr2, t2, p2⟩ := Ks.app hKa (fun k hk => by have h1 := HOR.out.size; have h2 := hOa.size; omega) (by rw [List.length_map, List.length_take]; omega) h 22
            have hsz : (wr.alloc (.cells #[.int .i64 a, .int .i64 h, .int .i64 l, .int .i64 s] 60)).heap.size = wr.heap.size + 1 := by show (wr.heap.push _).size = _; simp
            rw [hsz] at hr2
            have HR2 := Lib.hid hr2
            have HT2 := Lib.hid t2
            have HP2 : Hid (Only (fun _ => False) w5 w2) := Lib.hid ((HOR.out.trans hOa).then_ p2 (fun k hk => .inr (Row.own hKa hk).1))
            clear hge hTr hcc hOa hKa hr2 t2 p2 hte hkr hsz
            go_wp2_with (first
              | ((with_reducible refine gate_builtin (b := .append) (xs := #[.tmp 79, .tmp 82]) rfl ?_); at_builtin; go_loud (refine Go.Lib.wpList_append_run_sl _ rfl (.tmp 79) (.tmp 82) 22 rfl _ _ rfl rfl HR2.out ?_)))
            go_roundw
            case rel =>
              refine ⟨k + 1, by go_num, by omega, Lib.hid ?_, HP2⟩
              rw [List.take_add_one, HGE.out, List.map_append]
              exact HT2.out
            case measure => simp [RowKit.intOf]; omega
          · have hge : ¬ (k : Int) < k := by omega
            go_wp2
            go_ret
            have hend := adv_end HR.out.pm (fun t ht => Int.le_trans (HR.out.fi t ht) HR.out.le) HE.out.2
            have hs5 := HW4.out.1.only HO5.out (fun q hq e => (Row.own HT4.out e).1.2 hq)
            have hsz5 : w.heap.size ≤ w5.heap.size := Nat.le_trans HR.out.on.size (Nat.le_trans HO3.out.size (Nat.le_trans HW4.out.2.size HO5.out.size))
            refine ⟨u12, F', vals', rows', L', rfl, ?_, hs5.only HOR.out (fun _ _ h => h), HE.out.1, hend.2, HR.out.ff, ((((HR.out.on.trans (HO3.out.mono (fun _ h => h.elim))).then_ HW4.out.2 (fun q hq => by rw [hq]; exact HR.out.ff g HR.out.ws.fg)).then_ HO5.out (fun q hq => .inr (Row.own HT4.out hq).1.1)).trans (HOR.out.mono (fun _ h => h.elim)))⟩
            have ho : (out'.take k).map Tm.h = outK to_ K := by
              rw [HNO.out, List.take_length]
              unfold outK
              rw [← hend.1, ← HK5.out, List.map_map]
              rfl
            have hk := HKR.out
            rw [ho] at hk
            exact Row.to hk (fun q hq => ⟨Nat.le_trans hsz5 (Row.own hk hq).1, fun hF => by have h1 := hs5.flt q hF; have h2 := (Row.own hk hq).1; omega⟩)
      · have hd : decide (to_ < x') = false := decide_eq_false hx
        have HXT : Hid (x' ≤ to_) := Lib.hid (by omega)
        clear hx
        have HS3 := Lib.hid (HR.out.ws.only HO3.out (fun _ _ h => h))
        have z3 := HS3.out.blk.now
        have f3 := HS3.out.blk.frozen 0
        obtain ⟨w4, hw4⟩ : ∃ w4, w4 = w3.setCell ⟨g, 0, none⟩ (.int .i64 x') := ⟨_, rfl⟩
        have HW4 : Hid (WS w4 g b F' x' last L' vals' rows' ∧ Only (fun k => k = g) w3 w4) := by rw [hw4]; exact Lib.hid (HS3.out.atNow x')
        have HIL : Hid (i < 257) := Lib.hid HX3.out.1
        have hv4 := HW4.out.1.blk.val i HIL.out
        have hf4 := HW4.out.1.blk.frozen (2 + i)
        have HKV := HW4.out.1.row i HIL.out
        obtain ⟨R, hR⟩ : ∃ R, R = rows' i := ⟨_, rfl⟩
        obtain ⟨V, hV⟩ : ∃ V, V = vals' i := ⟨_, rfl⟩
        rw [← hR, ← hV] at HKV
        rw [← hV] at hv4
        obtain ⟨A, cN, hVV, _⟩ := Row.form HKV
        obtain ⟨N, hN⟩ : ∃ N, N = R.length := ⟨_, rfl⟩
        rw [← hN] at hVV
        subst hVV
        obtain ⟨w5, hw5⟩ : ∃ w5, w5 = w4.setCell ⟨g, 2 + i, none⟩ (.slice none 0 0) := ⟨_, rfl⟩
        have hW5 := HW4.out.1.take i HIL.out
        rw [← hV, ← hw5] at hW5
        have HW5 := Lib.hid hW5
        have HK5 : Hid (Ks w5 F' (.slice A N cN) R) := Lib.hid (Row.only HKV hW5.2 (fun q hq e => by obtain ⟨cs5, hcs5⟩ := HW4.out.1.blk.isBlk; exact Ks.ne HKV hcs5 (by decide) (by rw [hq, e])))
        have HVA := Lib.hid hV
        have HN := Lib.hid hN
        have HR5 := Lib.hid hR
        clear hW5 HKV hN hR hV
        rw [hw4] at hv4 hf4 hw5
        go_upto_region 11 with fail
        rw [← hw5]
        clear hw5 hw4 hv4 hf4 z3 f3
        have HRM : Hid (∀ h ∈ R, ∃ t ∈ L', t.h = h) := Lib.hid (fun h hm => by
          rw [HR5.out] at hm
          obtain ⟨_, t, ht, hh, _⟩ := (HR.out.j.mem _ _).1 hm
          exact ⟨t, ht, hh⟩)
        have HND : Hid R.Nodup := by rw [HR5.out]; exact Lib.hid (HR.out.j.rnd i)
        have HJ5 : Hid (J x' L' (upd rows' i []) R) := by rw [HR5.out]; exact Lib.hid HX3.out.2.2.2.2.1
        have HLB : Hid (L'.length ≤ 4096) := Lib.hid (by have h1 := HR.out.pm.length_eq; have h2 := HKL.out; simp only [List.length_map, List.length_append] at h1; omega)
        have HNB : Hid (N ≤ 4096) := Lib.hid (by have h1 := HR.out.j.len i; have h2 := HLB.out; have h3 := HN.out; rw [HR5.out] at h3; omega)
        have HCX : Hid (cl x' = x') := Lib.hid (cl_same x' HJ5.out.n0.1 HJ5.out.n0.2)
        go_loopw [50, 11] (fun v50 _ wr => ∃ (k : Nat) (Fk : Nat → Prop) (Lk : List Tm) (valsk : Nat → Value) (rowsk : Nat → List Int), v50 = .int .i64 (k : Int) ∧ k ≤ N ∧ Hid (WS wr g b Fk x' last Lk valsk rowsk) ∧ Hid (J x' Lk rowsk (R.drop k)) ∧ Hid ((Lk.map key).Perm (L'.map key)) ∧ Hid (∀ q, Fk q → (F' q ∧ (Value.slice A N cN).ownBlock ≠ some q) ∨ w5.heap.size ≤ q) ∧ Hid (Only (fun q => F' q ∧ (Value.slice A N cN).ownBlock ≠ some q) w5 wr)) (fun v50 _ _ => N - (RowKit.intOf v50).toNat)
        case atStart => exact ⟨0, _, L', _, _, rfl, Nat.zero_le _, Lib.hid HW5.out.1, HJ5, Lib.hid (.refl _), Lib.hid (fun q hq => .inl hq), Lib.hid (Only.refl _ _)⟩
        case round =>
          obtain ⟨k, Fk, Lk, valsk, rowsk, rfl, hk, HWK, HJK, HPK, HFK, HOK⟩ := hrel
          have HLK : Hid (Lk.length ≤ 4096) := Lib.hid (by have h1 := HPK.out.length_eq; have h2 := HLB.out; simp only [List.length_map] at h1; omega)
          have hgo : k < N ∨ k = N := by omega
          rcases hgo with hlt | rfl
          · have hlt' : (k : Int) < (N : Int) := by omega
            have hNb := HNB.out
            have hkr : k < R.length := by rw [← HN.out]; exact hlt
            have hge : R[k]? = some R[k] := List.getElem?_eq_getElem hkr
            obtain ⟨h0, hh0⟩ : ∃ h0, h0 = R[k] := ⟨_, rfl⟩
            rw [← hh0] at hge
            have hmem : h0 ∈ Lk.map Tm.h := by
              obtain ⟨t, ht, hth⟩ := HRM.out h0 (by rw [hh0]; exact List.getElem_mem hkr)
              have h1 := (HPK.out.map Prod.snd).mem_iff (a := h0)
              rw [List.map_map, List.map_map] at h1
              exact h1.2 (List.mem_map.2 ⟨t, ht, hth⟩)
            obtain ⟨t, ht, hth⟩ := List.mem_map.1 hmem
            clear hmem hh0
            subst hth
            have HGE := Lib.hid hge
            have HTL := Lib.hid ht
            have hlk := HWK.out.map.look ht
            have hwf : (Lit.int .i64 t.h).wf = true := by obtain ⟨D, _, hhd⟩ := HWK.out.map; exact hhd.wf t ht
            have hbd := HJK.out.bd t ht
            have HPUT := Lib.hid (put_p HWK.out t HCX.out (cl_same _ hbd.1 hbd.2) hwf (fun i => Nat.le_trans (HJK.out.len i) (Nat.le_trans HLK.out (by decide))) (Nat.le_trans HLK.out (by decide)))
            have hm0 := HWK.out.blk.mapc
            have hKr := Row.only HK5.out HOK.out (fun q hq e => e.2 hq)
            rw [← HN.out] at hKr
            obtain ⟨q2, o2, c2, he, hcc⟩ := Row.some_ hKr (by omega)
            injection he with e1 e2 e3
            subst e1 e3
            obtain ⟨a, h, l, s⟩ := t
            have hx0 : wr.cell? ⟨q2, o2 + k, none⟩ = some (.int .i64 h) := Row.cell hKr k (by rw [List.getElem?_map, hge]; rfl)
            unfold Tm.v at hlk HPUT
            simp only at hlk HPUT
            clear hge ht hwf hbd hKr hcc hkr
            go_wp2_with (go_at_call 23; refine HPUT.out.mono ?_; rintro e w6 ⟨rfl, F6, vals6, hs6, hf6, ho6⟩; have HS6 := Lib.hid hs6; have HF6 := Lib.hid hf6; have HO6 := Lib.hid ho6; clear hs6 hf6 ho6)
            go_roundw
            case rel =>
              obtain ⟨hd, hdf⟩ := drop_step HND.out HGE.out
              have hbd := HJK.out.bd _ HTL.out
              have hj := HJK.out.put ⟨a, h, l, s⟩ hbd (fun i hm => ((HJK.out.mem i h).1 hm).1 (by rw [hd]; simp))
              rw [hdf] at hj
              refine ⟨k + 1, F6, _, vals6, _, by go_num, by omega, HS6, Lib.hid hj, Lib.hid ((putL_back HJK.out.nd HTL.out).trans HPK.out), Lib.hid (fun q hq => ?_), Lib.hid ?_⟩
              · rcases HF6.out q hq with h1 | h1
                · exact HFK.out q h1
                · exact .inr (Nat.le_trans HOK.out.size h1)
              · exact HOK.out.then_ HO6.out HFK.out
            case measure => simp [RowKit.intOf]; omega
          · have hge : ¬ (k : Int) < k := by omega
            have hj0 := HJK.out
            rw [HN.out, List.drop_length] at hj0
            have HJ0 := Lib.hid hj0
            have HDU := Lib.hid (due_p HWK.out hj0 HCX.out (fun i => Nat.le_trans (hj0.len i) (Nat.le_trans HLK.out (by decide))))
            have HT5 : Hid (Ts w5 (fun q => w.heap.size ≤ q ∧ ¬ F' q) u5 fired) := Lib.hid (by
              have h1 := Ts.only HR.out.ts HO3.out (fun _ _ h => h)
              exact Ts.only h1 (HW4.out.2.trans HW5.out.2) (fun q hq e => (Row.own h1 hq).1.2 (by rw [e]; exact HR.out.ws.fg)))
            have HOW : Hid (Only F w wr) := Lib.hid (((HR.out.on.trans (HO3.out.mono (fun _ h => h.elim))).then_ (HW4.out.2.trans HW5.out.2) (fun q hq => by rw [hq]; exact HR.out.ff g HR.out.ws.fg)).then_ HOK.out (fun q hq => HR.out.ff q hq.1))
            have HFW : Hid (∀ q, Fk q → F q ∨ w.heap.size ≤ q) := Lib.hid (fun q hq => by
              rcases HFK.out q hq with h1 | h1
              · exact HR.out.ff q h1.1
              · exact .inr (by have h2 := HR.out.on.size; have h3 := HO3.out.size; have h4 := HW4.out.2.size; have h5 := HW5.out.2.size; omega))
            have HQN : Hid (∀ q, u5.ownBlock = some q → w.heap.size ≤ q ∧ ¬ Fk q) := Lib.hid (fun q hq => by
              have h1 := Row.own HT5.out hq
              refine ⟨h1.1.1, fun hF => ?_⟩
              rcases HFK.out q hF with h2 | h2
              · exact h1.1.2 h2.1
              · have := h1.2; omega)
            have HTW : Hid (Ts wr (fun q => w.heap.size ≤ q ∧ ¬ Fk q) u5 fired) := Lib.hid (Row.to (Ts.only HT5.out HOK.out (fun q hq e => (Row.own HT5.out hq).1.2 e.1)) HQN.out)
            have HLE : Hid (fired.length ≤ 4096) := Lib.hid (by have h1 := HR.out.pm.length_eq; have h2 := HKL.out; simp only [List.length_map, List.length_append] at h1; omega)
            clear hj0
            go_wp2_with (first
              | (go_at_call 24; refine HDU.out.mono ?_; rintro e w7 ⟨v7, out7, vals7, rfl, ht7, hp7, hs7, ho7⟩
                 have hlen7 : out7.length ≤ 4096 := by rw [hp7.length_eq]; exact Nat.le_trans (List.length_filter_le _ _) HLK.out
                 have hTW7 := Ts.only HTW.out ho7 (fun q hq e => (Row.own HTW.out hq).1.2 e)
                 obtain ⟨v8, w8, hr8, t8, o8⟩ := Ts.all hTW7 ht7 (fun q hq => ⟨by have h1 := HOW.out.size; have h2 := ho7.size; omega, fun hF => by have h1 := HWK.out.flt q hF; have h2 := ho7.size; omega⟩) (by have := HLE.out; omega) 61
                 have HR8 := Lib.hid hr8
                 have HT8 := Lib.hid t8
                 have HO8 := Lib.hid o8
                 have HP7 := Lib.hid hp7
                 have HS7 := Lib.hid hs7
                 have HO7 := Lib.hid ho7
                 clear hlen7 hTW7 hr8 t8 o8 ht7 hp7 hs7 ho7)
              | ((with_reducible refine gate_builtin (b := .append) (xs := #[.tmp 63, .tmp 65]) rfl ?_); at_builtin; go_loud (refine Go.Lib.wpList_append_run_sl _ rfl (.tmp 63) (.tmp 65) 61 rfl _ _ rfl rfl HR8.out ?_)))
            go_roundw
            case rel =>
              refine ⟨x', Fk, fired ++ out7, _, vals7, _, Lib.hid ⟨HT8.out, HS7.out.only HO8.out (fun q hq e => (HQN.out q e).2 hq), HJ0.out.due.2, fun t ht => of_decide_eq_true (List.mem_filter.1 ht).2, HXT.out, fun t ht => ?_, ?_, HFW.out, (HOW.out.then_ HO7.out HFW.out).then_ HO8.out (fun q hq => .inr (HQN.out q hq).1)⟩⟩
              · rcases List.mem_append.1 ht with h1 | h1
                · exact Int.le_trans (HR.out.fi t h1) (Int.le_of_lt HX3.out.2.1)
                · exact of_decide_eq_true (List.mem_filter.1 (HP7.out.mem_iff.1 h1)).2
              · rw [List.append_assoc, List.map_append]
                refine List.Perm.trans ((((due_split HP7.out).trans HPK.out)).append_left _) ?_
                rw [← List.map_append]
                exact HR.out.pm
            case measure =>
              have h1 := HR.out.ws.blk.now
              have h2 := (HS7.out.only HO8.out (fun q hq e => (HQN.out q e).2 hq)).blk.now
              rw [h1, h2]
              have h3 := HX3.out.2.1
              have h4 := HXT.out
              simp only [RowKit.intOf]
              omega
end Go.Proofs.Ytkjokpmlnnjmoaa.Wh

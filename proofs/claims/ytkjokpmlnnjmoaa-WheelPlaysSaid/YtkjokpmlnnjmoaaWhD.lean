/- Wheel: due. -/
import Derived.Test.YtkjokpmlnnjmoaaWhP
set_option linter.unusedVariables false
set_option linter.unusedSimpArgs false
namespace Go.Proofs.Ytkjokpmlnnjmoaa.Wh
open Go.RowKit Go.Maps Go.Proofs.Ytkjokpmlnnjmoaa.Base Go.Proofs.Ytkjokpmlnnjmoaa.Rws Go.Proofs.YtkjokpmlnnjmoaaW.PrintWords Go.Proofs.YtkjokpmlnnjmoaaW.PrintMore
attribute [local go_sem] max2_mx min2_mn max_two min_two max_three min_three max_four min_four

theorem Ts.only {w w' : World} {P S : Nat → Prop} {v : Value} {L : List Tm} (h : Ts w P v L) (k : Only S w w') (hn : ∀ g, v.ownBlock = some g → ¬ S g) : Ts w' P v L := Row.only h k hn
theorem Ts.neMap {w : World} {P : Nat → Prop} {v : Value} {L : List Tm} (h : Ts w P v L) {g : Nat} {es : Array MapEntry} {c : Nat} (hg : w.heap[g]? = some (.map es c)) : v.ownBlock ≠ some g := Row.neMap h hg

/-- What due takes off: the timers of the list, and what is left. -/
theorem takes_step {L : List Tm} {R : List Int} {j : Nat} {h : Int} (hnd : (L.map Tm.h).Nodup) (hR : R.Nodup) (hj : R[j]? = some h) {t : Tm} (ht : t ∈ L) (hh : t.h = h) :
    (L.filter (fun x => decide (x.h ∉ R.take j))).filter (fun x => decide (x.h ≠ h)) = L.filter (fun x => decide (x.h ∉ R.take (j + 1))) ∧ t ∈ L.filter (fun x => decide (x.h ∉ R.take j)) := by
  have htk : R.take (j + 1) = R.take j ++ [h] := by rw [List.take_add_one, hj]; rfl
  constructor
  · rw [List.filter_filter]
    refine List.filter_congr fun x hx => ?_
    rw [htk]
    simp [and_comm]
  · rw [List.mem_filter]
    refine ⟨ht, decide_eq_true ?_⟩
    rw [hh]
    intro hm
    obtain ⟨i, hi, he⟩ := List.getElem_of_mem hm
    rw [List.length_take] at hi
    rw [List.getElem_take] at he
    obtain ⟨hj', hje⟩ := List.getElem?_eq_some_iff.1 hj
    have := (List.nodup_iff_pairwise_ne.1 hR)
    rw [List.pairwise_iff_getElem] at this
    exact this i j (by omega) hj' (by omega) (by rw [he, hje])

theorem J.outs {n : Int} {L : List Tm} {rows : Nat → List Int} (j : J n L rows []) {outs : List Tm} (h1 : outs.map Tm.h = rows (n % 64).toNat) (h2 : ∀ t ∈ outs, t ∈ L) : outs.Perm (L.filter (fun t => decide (t.at_ ≤ n))) ∧ L.filter (fun x => decide (x.h ∉ rows (n % 64).toNat)) = L.filter (fun t => decide (n < t.at_)) := by
  have hd := (j.due).1
  have hin : ∀ t ∈ L, t.h ∈ rows (n % 64).toNat ↔ t.at_ ≤ n := fun t ht => by
    rw [hd]
    constructor
    · rintro ⟨t', ht', hh, hi⟩
      rw [← j.one ht' ht hh]
      exact hi
    · intro h
      exact ⟨t, ht, rfl, h⟩
  have nd : ∀ {l : List Tm}, (l.map Tm.h).Nodup → l.Nodup := fun {l} h => by
    rw [List.nodup_iff_pairwise_ne] at h ⊢
    rw [List.pairwise_map] at h
    exact h.imp (fun h e => h (by rw [e]))
  constructor
  · rw [List.perm_ext_iff_of_nodup (nd (by rw [h1]; exact j.rnd _)) ((nd j.nd).sublist List.filter_sublist)]
    intro t
    rw [List.mem_filter, decide_eq_true_eq]
    constructor
    · intro ht
      exact ⟨h2 t ht, (hin t (h2 t ht)).1 (by rw [← h1]; exact List.mem_map.2 ⟨t, ht, rfl⟩)⟩
    · rintro ⟨ht, ha⟩
      have := (hin t ht).2 ha
      rw [← h1] at this
      obtain ⟨t', ht', hh⟩ := List.mem_map.1 this
      rw [← j.one (h2 t' ht') ht hh]
      exact ht'
  · refine List.filter_congr fun t ht => ?_
    have := hin t ht
    simp only [decide_not, decide_eq_decide, Bool.not_eq_eq_eq_not]
    by_cases h : t.at_ ≤ n
    · simp [this.2 h, h]
    · have h3 : t.h ∉ rows (n % 64).toNat := fun h4 => h (this.1 h4)
      simp [h3]
      omega

def DuePost (w : World) (g b : Nat) (F : Nat → Prop) (n last : Int) (L : List Tm) (rows : Nat → List Int) (e : Ending) (w' : World) : Prop :=
  ∃ v out vals', e = .returned v ∧ Ts w' (fun k => w.heap.size ≤ k) v out ∧ out.Perm (L.filter (fun t => decide (t.at_ ≤ n))) ∧ WS w' g b F n last (L.filter (fun t => decide (n < t.at_))) vals' (upd rows (n % 64).toNat []) ∧ Only F w w'

set_option maxHeartbeats 4000000 in
set_option maxRecDepth 100000 in
theorem due_p {w : World} {g b : Nat} {F : Nat → Prop} {n last : Int} {L : List Tm} {vals : Nat → Value} {rows : Nat → List Int} (hs : WS w g b F n last L vals rows) (j : J n L rows []) (hn : cl n = n) (hL : ∀ i, (rows i).length ≤ 10000) :
    Calls Try.prog 24 #[.pointer (some ⟨g, 0, none⟩)] w (DuePost w g b F n last L rows) := by
  have HS := Lib.hid hs
  have HJ := Lib.hid j
  obtain ⟨q, hq⟩ : ∃ q, q = n % 64 := ⟨_, rfl⟩
  have HP : Hid (∀ w, Calls Try.prog 40 #[.int .i64 n, .int .i64 0] w fun e w' => e = .returned (.int .i64 q) ∧ w' = w) := Lib.hid (fun w => by
    have h := part_p n 0 (.inl rfl) w
    rw [hn, part0, ← hq] at h
    exact h.mono fun _ _ h => ⟨h.1, h.2.symm⟩)
  have h0 : 0 ≤ q := by omega
  have h1 : q < 64 := by omega
  have HQ := Lib.hid hq
  obtain ⟨i0, hi0⟩ : ∃ i0, i0 = q.toNat := ⟨_, rfl⟩
  have HI := Lib.hid hi0
  have HIL : Hid (i0 < 257) := Lib.hid (by omega)
  have z0 := hs.blk.now
  clear hs j hn hq hi0
  have HLR := Lib.hid hL
  clear hL
  go_enter Try.func24, Try.ntmps24
  go_wp2
  go_quiet ((go_at_call 40; exact Calls.quiet_of_same (HP.out _)))
  obtain ⟨w1, hw1⟩ : ∃ w1, w1 = w.drewN nq := ⟨_, rfl⟩
  have HO1 : Hid (Only (fun _ => False) w w1) := by rw [hw1]; exact Lib.hid ((Only.refl _ w).drewN _)
  have HS1 := Lib.hid (HS.out.only HO1.out (fun _ _ h => h))
  rw [← hw1, ← HI.out]
  clear hw1 z0
  have x1 := HS1.out.blk.val i0 HIL.out
  obtain ⟨R, hR⟩ : ∃ R, R = rows i0 := ⟨_, rfl⟩
  have HR := Lib.hid hR
  have HKV := HS.out.row i0 HIL.out
  rw [← hR] at HKV
  obtain ⟨A, c, hV, _⟩ := HKV.form
  obtain ⟨N, hN⟩ : ∃ N, N = R.length := ⟨_, rfl⟩
  rw [← hN] at hV
  rw [hV] at x1 HKV
  have HN := Lib.hid hN
  have HV := Lib.hid hV
  have HK := Lib.hid HKV
  have HND : Hid (R.Nodup) := by rw [hR]; exact Lib.hid (HJ.out.rnd _)
  have HRL : Hid (N ≤ 10000) := by rw [hN, hR]; exact Lib.hid (HLR.out _)
  have HRM : Hid (∀ h ∈ R, ∃ t ∈ L, t.h = h) := Lib.hid (fun h hm => by
    rw [hR] at hm
    obtain ⟨_, t, ht, hh, _⟩ := (HJ.out.mem _ _).1 hm
    exact ⟨t, ht, hh⟩)
  clear hR HKV hV hN
  go_upto_region 4 with fail
  go_loopw [3, 21, 6] (fun v3 v21 _ wr => ∃ (k : Nat) (outs : List Tm), v21 = .int .i64 (k : Int) ∧ k ≤ N ∧ Hid (Ts wr (fun k => w.heap.size ≤ k) v3 outs) ∧ Hid (outs.map Tm.h = R.take k) ∧ Hid (∀ t ∈ outs, t ∈ L) ∧ Hid (TM wr b (L.filter (fun x => decide (x.h ∉ R.take k)))) ∧ Hid (Only (fun k => k = b) w wr)) (fun _ v21 _ _ => N - (RowKit.intOf v21).toNat)
  case atStart =>
    refine ⟨0, [], rfl, Nat.zero_le _, Lib.hid (Row.nil _ _ _ _), Lib.hid rfl, Lib.hid (by simp), Lib.hid ?_, Lib.hid (HO1.out.mono (fun _ h => h.elim))⟩
    have : L.filter (fun x => decide (x.h ∉ R.take 0)) = L := List.filter_eq_self.2 (by simp)
    rw [this]
    exact HS1.out.map
  case round =>
    obtain ⟨k, outs, rfl, hk, HT, HOH, HOL, HTM, HO⟩ := hrel
    have hgo : k < N ∨ k = N := by omega
    rcases hgo with hlt | rfl
    · have hlt' : (k : Int) < (N : Int) := by omega
      have hNb := HRL.out
      have hkr : k < R.length := by rw [← HN.out]; exact hlt
      have hge : R[k]? = some R[k] := List.getElem?_eq_getElem hkr
      obtain ⟨t, ht, hth⟩ := HRM.out _ (List.getElem_mem hkr)
      obtain ⟨hst, hin⟩ := takes_step HJ.out.nd HND.out hge ht hth
      obtain ⟨h, hh⟩ : ∃ h, h = R[k] := ⟨_, rfl⟩
      rw [← hh] at hge hth hst
      have hlk := HTM.out.look hin
      obtain ⟨a, h', l, s⟩ := t
      simp only at hth
      subst hth
      unfold Tm.v at hlk
      simp only at hlk
      have HST := Lib.hid hst
      have HTL := Lib.hid ht
      have HGE := Lib.hid hge
      obtain ⟨esm, clm, hmb⟩ := HS1.out.map.isMap
      obtain ⟨esw, clw, hmw⟩ := HS.out.map.isMap
      have hKr := Row.only HK.out HO.out (fun q2 hq2 e => Row.neMap HK.out hmw (by rw [hq2, e]))
      rw [← HN.out] at hKr
      obtain ⟨q2, o2, c2, he, hcc⟩ := Row.some_ hKr (by omega)
      injection he with e1 e2 e3
      subst e1 e3
      have hx0 : wr.cell? ⟨q2, o2 + k, none⟩ = some (.int .i64 h') := Row.cell hKr k (by rw [List.getElem?_map, hge]; rfl)
      have hgb : g ≠ b := by obtain ⟨cs5, hcs5⟩ := HS.out.blk.isBlk; exact HS.out.map.ne hcs5
      have hbr : WB wr g b n last vals := HS.out.blk.only HO.out (fun e => hgb e)
      have hm9 := hbr.mapc
      have HBR := Lib.hid hbr
      have HGB := Lib.hid hgb
      obtain ⟨v2, w2, hr2, t2, p2⟩ := Ts.app HT.out (fun k hk => by have := HO.out.size; omega) (by
        have h1 := congrArg List.length HOH.out
        rw [List.length_map, List.length_take] at h1
        have h2 := HRL.out
        omega) ⟨a, h', l, s⟩ 61
      have HR2 := Lib.hid hr2
      have HT2 := Lib.hid t2
      have hTw := HT.out
      have hb2 : WB w2 g b n last vals := hbr.only p2 (fun e => by obtain ⟨cs5, hcs5⟩ := hbr.isBlk; exact Row.ne hTw hcs5 (by decide) e)
      have hm29 := hb2.mapc
      have htm2 : TM w2 b (L.filter (fun x => decide (x.h ∉ R.take k))) := HTM.out.only p2 (fun e => by obtain ⟨es5, cl5, hm5⟩ := HTM.out.isMap; exact Row.neMap hTw hm5 e)
      have HO2 : Hid (Only (fun k => k = b) w w2) := Lib.hid (HO.out.then_ p2 (fun k hk => .inr (Row.own hTw hk).1))
      obtain ⟨D, hown, hhd⟩ := htm2
      have HHD := Lib.hid hhd
      have HKE := Lib.hid (keyI (hhd.wf _ hin))
      clear hst ht hge hmb hmw hKr hcc hgb hbr hr2 t2 p2 hTw hb2 hhd hin hh
      go_upto_region 7 with (
        first
        | ((with_reducible refine gate_builtin (b := .append) (xs := #[.tmp 25, .tmp 32]) rfl ?_); at_builtin; go_loud (refine Go.Lib.wpList_append_run_sl _ rfl (.tmp 25) (.tmp 32) 61 rfl _ _ rfl rfl HR2.out ?_)))
      go_wp2_with (at_delete; go_loud (refine wpList_delete_own _ rfl _ _ 53 3 rfl 60 law Try.underlying53 _ b _ D rfl hown _ (.int .i64 h') rfl HKE.out ?_; intro w3 hown3 hturn; have HT3 := Lib.hid hown3; have HU3 := Lib.hid hturn; clear hown3 hturn))
      go_roundw
      case rel =>
        obtain ⟨es5, cl5, hm5, _⟩ := hown
        have o3 : Only (fun k => k = b) w2 w3 := (Only.refl (fun k => k = b) w2).grown HU3.out.grown (fun k hk => .inl (by simpa using hk.symm))
        refine ⟨k + 1, outs ++ [⟨a, h', l, s⟩], by go_num, by omega, Lib.hid (Ts.only HT2.out o3 (fun q hq e => Ts.neMap HT2.out hm5 (by rw [hq, e]))), Lib.hid ?_, Lib.hid ?_, Lib.hid ?_, Lib.hid (HO2.out.trans o3)⟩
        · rw [List.map_append, HOH.out, List.take_add_one, HGE.out]; rfl
        · intro t ht
          rcases List.mem_append.1 ht with h1 | h1
          · exact HOL.out t h1
          · rw [List.mem_singleton.1 h1]; exact HTL.out
        · rw [← HST.out]
          exact tight HT3.out (HHD.out.del h' (HHD.out.wf ⟨a, h', l, s⟩ (takes_step HJ.out.nd HND.out HGE.out HTL.out rfl).2))
      case measure => simp [RowKit.intOf]; omega
    · have hge : ¬ (k : Int) < k := by omega
      have hbr : WB wr g b n last vals := HS.out.blk.only HO.out (fun e => by obtain ⟨cs5, hcs5⟩ := HS.out.blk.isBlk; exact HS.out.map.ne hcs5 e)
      have hx5 := hbr.val i0 HIL.out
      have hf5 := hbr.frozen (2 + i0)
      have HBR := Lib.hid hbr
      have hvi : vals i0 = .slice A k c := HV.out
      rw [hvi] at hx5
      have HVI := Lib.hid hvi
      clear hbr x1 hvi
      have htk : R.take k = rows i0 := by rw [HN.out, List.take_length, HR.out]
      obtain ⟨hp, hfl⟩ := HJ.out.outs (outs := outs) (by rw [← HQ.out, ← HI.out, ← htk]; exact HOH.out) HOL.out
      have HPE := Lib.hid hp
      rw [← HQ.out, ← HI.out, ← htk] at hfl
      have HTF : Hid (TM wr b (L.filter (fun t => decide (n < t.at_)))) := by rw [← hfl]; exact HTM
      clear hp hfl htk
      go_wp2
      go_ret
      have hs5 : Only (fun k => k = g) wr (wr.setCell ⟨g, 2 + i0, none⟩ (.slice none 0 0)) := (Only.refl (fun k => k = g) wr).setCell (p := ⟨g, 2 + i0, none⟩) (.inl rfl) _
      have hof : Only F w wr := HO.out.mono (fun k hk => by rw [hk]; exact HS.out.fb)
      have hgb : g ≠ b := by obtain ⟨cs5, hcs5⟩ := HS.out.blk.isBlk; exact HS.out.map.ne hcs5
      obtain ⟨cs5, hcs5⟩ := HS.out.blk.isBlk
      obtain ⟨es6, cl6, hm6⟩ := HS.out.map.isMap
      obtain ⟨cs7, hcs7⟩ := HBR.out.isBlk
      refine ⟨u3, outs, upd vals i0 (.slice none 0 0), rfl, Ts.only HT.out hs5 (fun q hq e => Row.ne HT.out hcs7 (by decide) (by rw [hq, e])), HPE.out, ⟨HBR.out.set i0 HIL.out _, HTF.out.only hs5 (fun e => hgb e.symm), fun i hi => ?_, fun i hi j hj hij k hk hk2 => ?_, HS.out.fg, HS.out.fb, fun k hk => Nat.lt_of_lt_of_le (HS.out.flt k hk) (Nat.le_trans hof.size hs5.size)⟩, hof.trans (hs5.mono (fun k hk => by rw [hk]; exact HS.out.fg))⟩
      · rw [← HQ.out, ← HI.out]
        by_cases e : i = i0
        · subst e
          rw [upd_same, upd_same]
          exact Row.nil _ _ _ _
        · rw [upd_other _ _ e, upd_other _ _ e]
          have h0 := HS.out.row i hi
          exact Row.only (Row.only h0 HO.out (fun q hq e => Row.neMap h0 hm6 (by rw [hq, e]))) hs5 (fun q hq e => Ks.ne h0 hcs5 (by decide) (by rw [hq, e]))
      · by_cases e : i = i0
        · subst e
          rw [upd_same] at hk
          simp [Value.ownBlock] at hk
        · rw [upd_other _ _ e] at hk
          by_cases e2 : j = i0
          · subst e2
            rw [upd_same] at hk2
            simp [Value.ownBlock] at hk2
          · rw [upd_other _ _ e2] at hk2
            exact HS.out.ap i hi j hj hij k hk hk2

end Go.Proofs.Ytkjokpmlnnjmoaa.Wh

/- Wheel: First; Advance of a nil wheel. -/
import Derived.Test.YtkjokpmlnnjmoaaWhU
set_option linter.unusedVariables false
set_option linter.unusedSimpArgs false
namespace Go.Proofs.Ytkjokpmlnnjmoaa.Wh
open Go.RowKit Go.Maps Go.Proofs.Ytkjokpmlnnjmoaa.Base Go.Proofs.Ytkjokpmlnnjmoaa.Rws Go.Proofs.YtkjokpmlnnjmoaaW.PrintWords Go.Proofs.YtkjokpmlnnjmoaaW.PrintMore
attribute [local go_sem] max2_mx min2_mn max_two min_two max_three min_three max_four min_four

theorem adv_nil (x : Int) (w : World) : Calls Try.prog 12 #[.pointer none, .int .i64 x] w fun e w' => e = .returned (.slice none 0 0) ∧ w = w' := by
  go_enter Try.func12, Try.ntmps12
  go_wp2_with (go_at_call 22; refine (none_nil _).mono ?_; rintro e w' ⟨rfl, rfl⟩)
  go_ret
  exact ⟨rfl, rfl⟩

theorem first_nil (w : World) : Calls Try.prog 17 #[.pointer none] w fun e w' => e = .returned (.tuple #[.int .i64 0, .bool false]) ∧ w = w' := by
  go_enter Try.func17, Try.ntmps17
  go_wp2_with (go_at_call 14; refine (len_nil _).mono ?_; rintro e w' ⟨rfl, rfl⟩)
  go_ret2
  exact ⟨rfl, rfl⟩

theorem first_none {w : World} {g b : Nat} {n last : Int} {vals : Nat → Value} (h : WB w g b n last vals) (hm : TM w b []) : Calls Try.prog 17 #[.pointer (some ⟨g, 0, none⟩)] w fun e w' => e = .returned (.tuple #[.int .i64 0, .bool false]) ∧ w = w' := by
  have H := Lib.hid (len_p h hm)
  clear h hm
  go_enter Try.func17, Try.ntmps17
  go_wp2_with (go_at_call 14; refine H.out.mono ?_; rintro e w' ⟨rfl, rfl⟩)
  go_ret2
  exact ⟨rfl, rfl⟩

theorem Holds.of_at {D : DataW Unit} {L : List Tm} (h : Holds D L) {k : Int} {t : Tm} (hk : (Lit.int .i64 k).wf = true) (ha : ∀ z, D.atKey (.int .i64 k) z = datT t) : t ∈ L ∧ t.h = k := by
  by_cases hm : ∃ t' ∈ L, t'.h = k
  · obtain ⟨t', ht', rfl⟩ := hm
    have h1 := h.at_ ht' (datT t)
    rw [ha] at h1
    have := datT_inj h1
    subst this
    exact ⟨ht', rfl⟩
  · exfalso
    have hany : L.any (fun t => decide (t.h = k)) = false := by
      rw [List.any_eq_false]
      intro t ht
      have : t.h ≠ k := fun e => hm ⟨t, ht, e⟩
      simpa using this
    have hhas : Maps.has D (.int .i64 k) = false := by rw [h.has k hk]; exact hany
    have h1 := ha (.lit (.int .i64 0))
    rw [Maps.atKey_of_not_has hhas] at h1
    unfold datT at h1
    cases h1

theorem invK (key : Value) (kl : Lit) (h : keyOf Try.prog 3 key = some kl) : ∃ x : Int, key = .int .i64 x := by
  obtain ⟨x, rfl, _⟩ := Maps.keyOf_int_inv Try.underlying3 h
  exact ⟨x, rfl⟩
theorem invV (v : Value) (y : DataW Unit × List MemPlace) (h : rdT v = some y) : ∃ t : Tm, v = .agg #[.int .i64 t.at_, .int .i64 t.h, .int .i64 t.lv, .int .i64 t.sl] := by
  obtain ⟨t, rfl, _⟩ := rdT_inv h
  exact ⟨t, rfl⟩

theorem only_h : ∀ {L : List Tm}, (L.map Tm.h).Nodup → ∀ {t t' : Tm}, t ∈ L → t' ∈ L → t.h = t'.h → t = t'
  | [], _, t, t', ht, _, _ => by cases ht
  | q :: L, hn, t, t', ht, ht', h => by
    rw [List.map_cons, List.nodup_cons] at hn
    rcases List.mem_cons.1 ht with rfl | h1
    · rcases List.mem_cons.1 ht' with rfl | h2
      · rfl
      · exact absurd (List.mem_map.2 ⟨t', h2, h.symm⟩) hn.1
    · rcases List.mem_cons.1 ht' with rfl | h2
      · exact absurd (List.mem_map.2 ⟨t, h1, h⟩) hn.1
      · exact only_h hn.2 h1 h2 h

set_option maxRecDepth 100000 in
set_option maxHeartbeats 4000000 in
theorem first_p {w : World} {g b : Nat} {n last : Int} {vals : Nat → Value} {L : List Tm} (h : WB w g b n last vals) (hm : TM w b L) (hne : L ≠ []) (hbd : ∀ t ∈ L, t.at_ ≤ 1125899906842624) :
    Calls Try.prog 17 #[.pointer (some ⟨g, 0, none⟩)] w fun e w' => ∃ m, e = .returned (.tuple #[.int .i64 m, .bool true]) ∧ (∀ t ∈ L, m ≤ t.at_) ∧ (∃ t ∈ L, m = t.at_) ∧ Only (fun _ => False) w w' := by
  have H := Lib.hid (len_p h hm)
  have hc := h.mapc
  have HNE := Lib.hid hne
  have HBD := Lib.hid hbd
  obtain ⟨D0, hown, hh⟩ := hm
  have HH := Lib.hid hh
  obtain ⟨N, hN⟩ : ∃ N, N = L.length := ⟨_, rfl⟩
  rw [← hN] at H hown
  have hb : ((N : Int) == 0) = false := by
    have : 0 < L.length := List.length_pos_iff.2 hne
    have : N ≠ 0 := by omega
    simp [this]
  clear h hh hne hbd hN
  go_enter Try.func17, Try.ntmps17
  go_wp2_with (first | (go_at_call 14; refine H.out.mono ?_; rintro e w' ⟨rfl, rfl⟩) | (at_range; refine wpList_range_own _ rfl _ 53 rfl 3 60 law Try.underlying53 _ b N D0 rfl hown ?_; intro w0 hrg0 hg0 hs0) | go_in)
  go_frame
  have HO0 : Hid (Only (fun _ => False) w w0) := Lib.hid ((Only.refl _ w).grown hg0 (by simp))
  have HL0 : Hid (∀ p ∈ L, has D0 (.int .i64 p.h) = false → (1125899906842624 : Int) ≤ p.at_) := Lib.hid (fun p hp hf => by
    rw [HH.out.has p.h (HH.out.wf p hp)] at hf
    have : L.any (fun q => decide (q.h = p.h)) = true := List.any_eq_true.2 ⟨p, hp, by simp⟩
    rw [hf] at this
    cases this)
  clear hg0 hs0 hc hown
  go_loopw [4, 6] (fun v4 _ wr => ∃ (m : Int) (left : Lit → Bool) (cnt : Nat), v4 = .int .i64 m ∧ wr.ranges Try.prog 3 rdT b w.heap.size N D0 left cnt ∧ Hid (Only (fun _ => False) w wr) ∧ Hid (∀ p ∈ L, left (.int .i64 p.h) = false → m ≤ p.at_) ∧ Hid (m = 1125899906842624 ∨ ∃ t ∈ L, m = t.at_)) (fun _ _ wr => wr.rangeLeft b w.heap.size)
  case atStart => exact ⟨1125899906842624, _, _, rfl, hrg0, HO0, HL0, Lib.hid (.inl rfl)⟩
  case round =>
    obtain ⟨m, left, cnt, rfl, hrg, HO, HLL, HX⟩ := hrel
    go_wp2_with (first | (at_next; refine wpList_next_ranges _ rfl _ rfl 3 law rdT (fun x : Int => .int .i64 x) (fun t : Tm => .agg #[.int .i64 t.at_, .int .i64 t.h, .int .i64 t.lv, .int .i64 t.sl]) invK invV b w.heap.size N _ _ _ rfl hrg ?_ ?_) | go_in)
    · intro _ hl0
      go_wp2
      go_ret2
      have hall : ∀ p ∈ L, m ≤ p.at_ := fun p hp => HLL.out p hp (hl0 _)
      refine ⟨m, rfl, hall, ?_, HO.out⟩
      rcases HX.out with h1 | h1
      · obtain ⟨t, ht⟩ := List.exists_mem_of_ne_nil L HNE.out
        exact ⟨t, ht, by have := hall t ht; have := HBD.out t ht; omega⟩
      · exact h1
    · intro x t kl yd yp w1 cnt1 hkey hlx hy hat hrg1 hlt hg1 hs1 hen
      obtain ⟨x', hwx, hxv, rfl⟩ : ∃ x', (Lit.int .i64 x').wf = true ∧ x = x' ∧ kl = .int .i64 x' := by
        obtain ⟨x', ex, rfl, hwx⟩ := Maps.keyOf_int_inv Try.underlying3 hkey
        injection ex with _ ex
        exact ⟨x', hwx, ex, rfl⟩
      subst hxv
      have hyd : yd = datT t := by
        have : rdT t.v = some (yd, yp) := hy
        rw [rdT_v] at this
        injection this with this
        exact (congrArg Prod.fst this).symm
      subst hyd
      have hmem := HH.out.of_at hwx hat
      have HMEM := Lib.hid hmem
      have HO1 : Hid (Only (fun _ => False) w w1) := Lib.hid (HO.out.grown hg1 (fun k hk => by simp at hk; omega))
      obtain ⟨a, h', l, s⟩ := t
      simp only at hen
      have y0 := box_cell w1 #[.int .i64 a, .int .i64 h', .int .i64 l, .int .i64 s] 60 0 rfl
      clear hkey hy hg1 hs1 hat hmem
      go_wp2
      go_roundw
      case rel =>
        refine ⟨mn m a, _, cnt1, by first | rfl | simp, hrg1.alloc _, Lib.hid (HO1.out.alloc _), Lib.hid (fun p hp hf => ?_), Lib.hid ?_⟩
        · have hle : mn m a ≤ m ∧ mn m a ≤ a := by unfold mn; split <;> omega
          by_cases he : p.h = x
          · have h1 := only_h HH.out.nd hp HMEM.out.1 (by rw [he]; exact HMEM.out.2.symm)
            rw [h1]
            exact hle.2
          · rw [same_int (HH.out.wf p hp) hwx] at hf
            exact Int.le_trans hle.1 (HLL.out p hp (by simpa [he] using hf))
        · unfold mn
          split
          · exact .inr ⟨_, HMEM.out.1, rfl⟩
          · exact HX.out
      case measure => rw [(hrg1.alloc _).left_eq, hrg.left_eq]; exact hlt

end Go.Proofs.Ytkjokpmlnnjmoaa.Wh

/- Wheel: awake. -/
import Derived.Test.YtkjokpmlnnjmoaaWhG
set_option linter.unusedVariables false
set_option linter.unusedSimpArgs false
namespace Go.Proofs.Ytkjokpmlnnjmoaa.Wh
open Go.RowKit Go.Maps Go.Proofs.Ytkjokpmlnnjmoaa.Base Go.Proofs.Ytkjokpmlnnjmoaa.Rws Go.Proofs.YtkjokpmlnnjmoaaW.PrintWords Go.Proofs.YtkjokpmlnnjmoaaW.PrintMore
attribute [local go_sem] max2_mx min2_mn max_two min_two max_three min_three max_four min_four

theorem sortK_one (p : Int × Int) : sortK [p] = [p] := (sortK_of (.refl _) (List.pairwise_singleton _ _)).symm

theorem Ks.one {w : World} {P : Nat → Prop} {v : Value} {x : Int} (h : Ks w P v [x]) : ∃ q o c, v = .slice (some ⟨q, o, none⟩) 1 c ∧ w.cell? ⟨q, o, none⟩ = some (.int .i64 x) := by
  obtain ⟨q, o, c, rfl, _⟩ := Row.some_ h (Nat.zero_lt_one)
  exact ⟨q, o, c, rfl, Row.cell h 0 rfl⟩

set_option maxHeartbeats 4000000 in
set_option maxRecDepth 100000 in
theorem awake_p (w : World) : Calls Try.prog 9 #[] w fun e w' => e = .returned (.bool true) ∧ Only (fun _ => False) w w' := by
  have HN := Lib.hid (wh_new 0 w)
  go_enter Try.func9, Try.ntmps9
  go_wp2_with (go_at_call 10; refine HN.out.mono ?_; rintro e w1 ⟨g, F, rfl, h1, hf, o1⟩; have H1 := Lib.hid h1; have HF := Lib.hid hf; have O1 := Lib.hid o1; clear h1 hf o1)
  have HA := Lib.hid (wh_add 5 H1.out (by decide) (by decide))
  go_upto_region 3 with (go_at_call 11; refine HA.out.mono ?_; rintro e w2 ⟨rfl, F2, h2, hf2, o2⟩; have H2 := Lib.hid h2; have HF2 : Hid (∀ k, F2 k → w.heap.size ≤ k) := Lib.hid (fun k hk => by have h0 := O1.out.size; rcases hf2 k hk with h | h; exact HF.out k h; omega); have O2 : Hid (Only (fun _ => False) w w2) := Lib.hid (O1.out.then_ o2 (fun k hk => .inr (HF.out k hk))); clear h2 hf2 o2)
  have HA2 := Lib.hid (wh_add 70 H2.out (by decide) (by decide))
  go_upto_region 4 with (go_at_call 11; refine HA2.out.mono ?_; rintro e w3 ⟨rfl, F3, h3, hf3, o3⟩; have H3 := Lib.hid h3; have HF3 : Hid (∀ k, F3 k → w.heap.size ≤ k) := Lib.hid (fun k hk => by have h0 := O2.out.size; rcases hf3 k hk with h | h; exact HF2.out k h; omega); have O3 : Hid (Only (fun _ => False) w w3) := Lib.hid (O2.out.then_ o3 (fun k hk => .inr (HF2.out k hk))); clear h3 hf3 o3)
  have HV := Lib.hid (wh_adv 69 H3.out (e := 69) (by decide +kernel))
  have e1 : outK 69 ([] ++ [(cl 5, (0 : Int) + 1)] ++ [(cl 70, (0 : Int) + 1 + 1)]) = [1] := by
    unfold outK
    rw [show (List.filter (fun p : Int × Int => decide (p.1 ≤ 69)) ([] ++ [(cl 5, (0 : Int) + 1)] ++ [(cl 70, (0 : Int) + 1 + 1)])) = [(5, 1)] by decide +kernel, sortK_one]
    rfl
  have e2 : restK 69 ([] ++ [(cl 5, (0 : Int) + 1)] ++ [(cl 70, (0 : Int) + 1 + 1)]) = [(70, 2)] := by decide +kernel
  rw [e1, e2] at HV
  clear e1 e2 HN HA HA2 H1 H2
  go_upto_region 5 with (go_at_call 12; refine HV.out.mono ?_; rintro e w4 ⟨v4, F4, rfl, k4, h4, hf4, o4⟩; have K4 := Lib.hid k4; have H4 := Lib.hid h4; have HF4 : Hid (∀ k, F4 k → w.heap.size ≤ k) := Lib.hid (fun k hk => by have h0 := O3.out.size; rcases hf4 k hk with h | h; exact HF3.out k h; omega); have O4 : Hid (Only (fun _ => False) w w4) := Lib.hid (O3.out.then_ o4 (fun k hk => .inr (HF3.out k hk))); clear k4 h4 hf4 o4)
  have HV2 := Lib.hid (wh_adv 70 H4.out (e := 70) (by decide +kernel))
  have e1 : outK 70 [(70, 2)] = [2] := by
    unfold outK
    rw [show (List.filter (fun p : Int × Int => decide (p.1 ≤ 70)) [((70 : Int), (2 : Int))]) = [(70, 2)] by decide +kernel, sortK_one]
    rfl
  have e2 : restK 70 [((70 : Int), (2 : Int))] = [] := by decide +kernel
  rw [e1, e2] at HV2
  clear e1 e2 HV H3
  go_upto_region 6 with (go_at_call 12; refine HV2.out.mono ?_; rintro e w5 ⟨v5, F5, rfl, k5, h5, hf5, o5⟩; have K5 := Lib.hid k5; have H5 := Lib.hid h5; have O5 : Hid (Only (fun _ => False) w w5) := Lib.hid (O4.out.then_ o5 (fun k hk => .inr (HF4.out k hk))); have O45 := Lib.hid o5; clear k5 h5 hf5 o5)
  obtain ⟨q4, c4, s4, rfl, hx4⟩ := Ks.one (Row.only K4.out O45.out (fun k hk => (Row.own K4.out hk).1.2))
  obtain ⟨q5, c5, s5, rfl, hx5⟩ := Ks.one K5.out
  have HL := Lib.hid (wh_len H5.out)
  have HW := Lib.hid (wh_now H5.out)
  go_wp2_with (first | (go_at_call 14; refine HL.out.mono ?_; rintro e w' ⟨rfl, rfl⟩) | (go_at_call 15; refine HW.out.mono ?_; rintro e w' ⟨rfl, rfl⟩))
  go_ret
  exact ⟨rfl, O5.out⟩

end Go.Proofs.Ytkjokpmlnnjmoaa.Wh

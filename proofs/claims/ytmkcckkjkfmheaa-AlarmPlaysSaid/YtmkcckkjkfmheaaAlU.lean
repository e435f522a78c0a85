/- Alarm: the first multiple of a grain. -/
import Derived.Test.YtmkcckkjkfmheaaAa
set_option linter.unusedVariables false
set_option linter.unusedSimpArgs false
set_option maxRecDepth 100000
namespace Go.Proofs.Ytmkcckkjkfmheaa.Al
open Go.RowKit Go.Maps Go.Proofs.Ytmkcckkjkfmheaa.Base Go.Proofs.Ytmkcckkjkfmheaa.Rws Go.Proofs.Ytmkcckkjkfmheaa.Wh Go.Proofs.YtmkcckkjkfmheaaW.PrintWords Go.Proofs.YtmkcckkjkfmheaaW.PrintMore
attribute [local go_sem] max2_mx min2_mn max_two min_two max_three min_three max_four min_four

theorem up_one (g : Int) (hg : g = 1 ∨ g = 2 ∨ g = 4 ∨ g = 8 ∨ g = 16 ∨ g = 32 ∨ g = 64) (x : Int) (hx : 0 ≤ x ∧ x ≤ 1125899906842624) (w : World) : Calls Try.prog 28 #[.int .i64 x, .int .i64 g] w fun e w' => e = .returned (.int .i64 ((x + g - 1) / g * g)) ∧ w = w' := by
  have h0 := hx.1
  have h1 := hx.2
  have HX : Hid (∀ w, Calls Try.prog 26 #[.int .i64 x] w fun e w' => e = .returned (.int .i64 x) ∧ w = w') := Lib.hid (fun w => by
    have := clamp_p x w
    rwa [cl_same x hx.1 hx.2] at this)
  have HC := Lib.hid (fun a w => clamp_p a w)
  have HG : Hid (∀ w, Calls Try.prog 26 #[.int .i64 g] w fun e w' => e = .returned (.int .i64 g) ∧ w = w') := Lib.hid (fun w => by
    have := clamp_p g w
    rwa [cl_same g (by omega) (by omega)] at this)
  have HR : Hid ((x + g - 1) / g * g = cl ((x + g - 1) / g * g)) := Lib.hid (by rcases hg with rfl | rfl | rfl | rfl | rfl | rfl | rfl <;> (rw [cl_same _ (by omega) (by omega)]))
  have hmx : mx g 1 = g := by unfold mx; rcases hg with rfl | rfl | rfl | rfl | rfl | rfl | rfl <;> rfl
  clear hx
  rcases hg with rfl | rfl | rfl | rfl | rfl | rfl | rfl
  all_goals
    go_enter Try.func28, Try.ntmps28
    go_wp2_with (go_at_call 26; first
      | (with_reducible refine (HX.out _).mono ?_; rintro e w' ⟨rfl, rfl⟩)
      | (with_reducible refine (HG.out _).mono ?_; rintro e w' ⟨rfl, rfl⟩)
      | (refine (HC.out _ _).mono ?_; rintro e w' ⟨rfl, rfl⟩))
    go_ret
    refine ⟨?_, rfl⟩
    first
      | exact congrArg (fun z => Ending.returned (Value.int .i64 z)) HR.out.symm
      | exact congrArg (fun z => Ending.returned (Value.int .i64 z)) (show x = (x + 1 - 1) / 1 * 1 by omega)

/-- The first multiple. -/
theorem up_p {G : Int} (h0 : 0 ≤ G) (h1 : G ≤ 6) (x : Int) (hx : 0 ≤ x ∧ x ≤ 1125899906842624) (w : World) : Calls Try.prog 28 #[.int .i64 x, .int .i64 (pw G)] w fun e w' => e = .returned (.int .i64 (sl G x * pw G)) ∧ w = w' := by
  have hc := pw_cases h0 h1
  exact up_one (pw G) (by omega) x hx w

theorem sl_bd {G x : Int} (h0 : 0 ≤ G) (h1 : G ≤ 6) (hx : 0 ≤ x ∧ x ≤ 1125899906842624) : 0 ≤ sl G x ∧ sl G x ≤ 1125899906842624 ∧ sl G x * pw G / pw G = sl G x ∧ 0 ≤ sl G x * pw G ∧ sl G x * pw G ≤ 1125899906842624 := by
  unfold sl
  rcases pw_cases h0 h1 with ⟨rfl, h⟩ | ⟨rfl, h⟩ | ⟨rfl, h⟩ | ⟨rfl, h⟩ | ⟨rfl, h⟩ | ⟨rfl, h⟩ | ⟨rfl, h⟩ <;> rw [h] <;> omega
end Go.Proofs.Ytmkcckkjkfmheaa.Al

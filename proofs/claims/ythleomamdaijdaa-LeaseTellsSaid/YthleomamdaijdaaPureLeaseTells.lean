/- The pure statement of LeaseTells: of any three whole numbers what the program's lease functions answer is what the references answer. No condition beyond int's range. -/
import Derived.Test.YthleomamdaijdaaPLeaseTellsx1
namespace Go.Proofs.Ythleomamdaijdaa.Pure
open Go.RowKit Go.Proofs.Ythleomamdaijdaa.PLeaseTells Go.Proofs.YthleomamdaijdaaW.PrintWords Go.Proofs.YthleomamdaijdaaW.PrintLast

set_option linter.unusedSimpArgs false
/-- A time, from 0 to the greatest tick. -/
def cl (a : Int) : Int := if a < 0 then 0 else if a > 1125899906842624 then 1125899906842624 else a

theorem cl_bounds (a : Int) : 0 ≤ cl a ∧ cl a ≤ 1125899906842624 := by
  unfold cl; repeat' split
  all_goals omega

theorem cl_p (a : Int) : ticks_Clamp.f a = some (cl a) := by
  unfold ticks_Clamp.f cl mn mx
  congr 1
  repeat' split
  all_goals omega

theorem cl_r (a : Int) : hourglassref01_Clamp.f a = some (cl a) := by
  unfold hourglassref01_Clamp.f cl
  repeat' split
  all_goals rfl

theorem awake : hourglasslaw15_awake.f = some true := by decide +kernel

theorem LeaseTells : hourglasslaw15_LeaseTells.Pure := by
  intro a b c _ _ _
  have ha := cl_bounds a
  have hb := cl_bounds b
  have hc := cl_bounds c
  simp only [hourglasslaw15_LeaseTells.f, lease_Over.f, lease_Grant.f, ticks_Add.f, hourglassref01_Add.f, lease_Raise.f, hourglassref15_Raise.f, lease_Ends.f, hourglassref15_Ends.f, hourglassref15_Over.f, awake, cl_p, cl_r, Option.bind_some]
  generalize cl a = x at *
  generalize cl b = y at *
  generalize cl c = z at *
  have e1 : wrap64 (x + y) = x + y := by unfold wrap64; omega
  have e2 : wrap64 (1125899906842624 - y) = 1125899906842624 - y := by unfold wrap64; omega
  rw [e1, e2]
  have g1 : cl (x + y) = if x > 1125899906842624 - y then 1125899906842624 else x + y := by
    unfold cl; repeat' split
    all_goals omega
  rw [g1]
  unfold mx mn
  clear e1 e2 g1
  by_cases h1 : x > 1125899906842624 - y <;> by_cases h2 : x < y <;> by_cases h3 : x ≥ y <;> by_cases h4 : x ≥ z <;> by_cases h5 : y ≤ x <;> by_cases h6 : z ≤ x <;> simp [h1, h2, h3, h4, h5, h6] <;> omega

end Go.Proofs.Ythleomamdaijdaa.Pure

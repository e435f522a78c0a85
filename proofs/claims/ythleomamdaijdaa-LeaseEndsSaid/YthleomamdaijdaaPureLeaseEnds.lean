/- The pure statement of LeaseEnds: whoever must stop now must stop later, just at Ends it begins, and what is heard never ends it sooner. No condition beyond int's range. -/
import Derived.Test.YthleomamdaijdaaPLeaseEndsx1
namespace Go.Proofs.Ythleomamdaijdaa.Pure
open Go.RowKit Go.Proofs.Ythleomamdaijdaa.PLeaseEnds Go.Proofs.YthleomamdaijdaaW.PrintWords Go.Proofs.YthleomamdaijdaaW.PrintLast

set_option linter.unusedSimpArgs false
/-- A time, from 0 to the greatest tick. -/
def cl (a : Int) : Int := if a < 0 then 0 else if a > 1125899906842624 then 1125899906842624 else a

theorem cl_bounds (a : Int) : 0 ≤ cl a ∧ cl a ≤ 1125899906842624 := by
  unfold cl; repeat' split
  all_goals omega

theorem cl_same (a : Int) (h0 : 0 ≤ a) (h1 : a ≤ 1125899906842624) : cl a = a := by
  unfold cl; repeat' split
  all_goals omega

theorem cl_p (a : Int) : ticks_Clamp.f a = some (cl a) := by
  unfold ticks_Clamp.f cl mn mx
  congr 1
  repeat' split
  all_goals omega

theorem cl_r (a : Int) : hourglassref01_Clamp.f a = some (cl a) := by
  unfold hourglassref01_Clamp.f cl
  repeat' split
  all_goals rfl

theorem awake : hourglasslaw15_awake.f = some true := by decide +kernel

theorem LeaseEnds : hourglasslaw15_LeaseEnds.Pure := by
  intro now later d u h _ _ _ _ _
  have hm : now ≤ later → cl now ≤ cl later := by
    intro hl; unfold cl; repeat' split
    all_goals omega
  have hd := cl_bounds d
  have hu := cl_bounds u
  have hh := cl_bounds h
  have hr : cl (mx (cl u) (cl h)) = mx (cl u) (cl h) := by
    apply cl_same <;> unfold mx <;> split <;> omega
  simp only [hourglasslaw15_LeaseEnds.f, lease_Over.f, lease_Raise.f, lease_Ends.f, awake, cl_p, cl_r, Option.bind_some, hr]
  generalize cl d = x at *
  generalize cl u = y at *
  generalize cl h = z at *
  generalize cl now = n at *
  generalize cl later = l at *
  have hmx : mx y z = y ∧ z ≤ y ∨ mx y z = z ∧ y < z := by unfold mx; split <;> omega
  have hmn : mn x y = x ∧ x ≤ y ∨ mn x y = y ∧ y < x := by unfold mn; split <;> omega
  clear hr
  generalize mx y z = m at *
  generalize mn x y = e at *
  by_cases h1 : n ≥ x <;> by_cases h2 : n ≥ y <;> by_cases h3 : l ≥ x <;> by_cases h4 : l ≥ y <;> by_cases h5 : later < now <;> by_cases h6 : n ≥ m <;> by_cases h7 : n ≥ e <;> simp [h1, h2, h3, h4, h5, h6, h7] <;> omega

end Go.Proofs.Ythleomamdaijdaa.Pure

/- The pure statement of LeasePasses: passed on through any list of at most 100 times a lease never goes further than it was granted, nor than anyone heard, and is one of these. No condition beyond the reach of the arguments. -/
import Derived.Test.YthleomamdaijdaaPLeasePassesx1
namespace Go.Proofs.Ythleomamdaijdaa.Pure
open Go.RowKit Go.Proofs.Ythleomamdaijdaa.PLeasePasses Go.Proofs.YthleomamdaijdaaW.PrintWords Go.Proofs.YthleomamdaijdaaW.PrintLast

/-- A time, from 0 to the greatest tick. -/
def cl (a : Int) : Int := if a < 0 then 0 else if a > 1125899906842624 then 1125899906842624 else a

theorem cl_bounds (a : Int) : 0 ≤ cl a ∧ cl a ≤ 1125899906842624 := by
  unfold cl; repeat' split
  all_goals omega

theorem cl_same (a : Int) (h0 : 0 ≤ a) (h1 : a ≤ 1125899906842624) : cl a = a := by
  unfold cl; repeat' split
  all_goals omega

theorem cl_p (a : Int) : ticks_Clamp.f a = some (cl a) := by
  unfold ticks_Clamp.f cl mn mx
  congr 1
  repeat' split
  all_goals omega

theorem cl_r (a : Int) : hourglassref01_Clamp.f a = some (cl a) := by
  unfold hourglassref01_Clamp.f cl
  repeat' split
  all_goals rfl

theorem awake : hourglasslaw15_awake.f = some true := by decide +kernel

theorem wrap_next {i : Int} {n : Nat} (h0 : 0 ≤ i) (h : i < (n : Int)) (hn : (n : Int) ≤ 9223372036854775807) : wrap64 (i + 1) = i + 1 := by
  unfold wrap64; omega

/-- The lease behind those above: not more than it was, nor than anyone heard, and one of these. -/
theorem passed (xs : List Int) (hn : (xs.length : Int) ≤ 9223372036854775807) (d : Nat) : ∀ (k : Nat) (u i : Int), 0 ≤ i → (xs.length : Int) - i = d → d < k →
    ∃ r, lease_Passed.l0 k u xs (xs.length : Int) i = some r ∧ r ≤ u ∧ (∀ j, i ≤ j → j < (xs.length : Int) → r ≤ cl (rd xs j)) ∧ (r = u ∨ ∃ j, i ≤ j ∧ j < (xs.length : Int) ∧ r = cl (rd xs j)) := by
  induction d with
  | zero =>
    intro k u i h0 hd hk
    obtain ⟨k, rfl⟩ : ∃ m, k = m + 1 := ⟨k - 1, by omega⟩
    refine ⟨u, ?_, Int.le_refl _, fun j _ _ => by omega, .inl rfl⟩
    simp only [lease_Passed.l0]; rw [if_neg (by omega)]
  | succ d ih =>
    intro k u i h0 hd hk
    obtain ⟨k, rfl⟩ : ∃ m, k = m + 1 := ⟨k - 1, by omega⟩
    have hlt : i < (xs.length : Int) := by omega
    obtain ⟨r, hr, h1, h2, h3⟩ := ih k (mn u (cl (rd xs i))) (i + 1) (by omega) (by omega) (by omega)
    have hm : mn u (cl (rd xs i)) = u ∧ u ≤ cl (rd xs i) ∨ mn u (cl (rd xs i)) = cl (rd xs i) ∧ cl (rd xs i) < u := by unfold mn; split <;> omega
    refine ⟨r, ?_, by omega, ?_, ?_⟩
    · simp only [lease_Passed.l0]; rw [if_pos hlt, if_pos h0, if_pos hlt, cl_p, Option.bind_some, wrap_next h0 hlt hn]; exact hr
    · intro j hj hj2
      by_cases e : j = i
      · subst e; omega
      · exact h2 j (by omega) hj2
    · rcases h3 with h3 | ⟨j, hj, hj2, h3⟩
      · rcases hm with ⟨hm, _⟩ | ⟨hm, _⟩
        · exact .inl (h3.trans hm)
        · exact .inr ⟨i, Int.le_refl _, hlt, h3.trans hm⟩
      · exact .inr ⟨j, by omega, hj2, h3⟩

/-- The law's own loop. -/
theorem looks (a b : Int) (xs : List Int) (hn : (xs.length : Int) ≤ 9223372036854775807) (u s : Int) (hs : hourglassref01_Add.f a b = some s) (hus : u ≤ s)
    (hall : ∀ j, 0 ≤ j → j < (xs.length : Int) → u ≤ cl (rd xs j)) (d : Nat) : ∀ (k : Nat) (one : Bool) (i : Int), 0 ≤ i → (xs.length : Int) - i = d → d < k →
    (one = true ∨ ∃ j, i ≤ j ∧ j < (xs.length : Int) ∧ u = cl (rd xs j)) → hourglasslaw15_LeasePasses.l0 k a b xs u one i = some true := by
  induction d with
  | zero =>
    intro k one i h0 hd hk ho
    obtain ⟨k, rfl⟩ : ∃ m, k = m + 1 := ⟨k - 1, by omega⟩
    have h1 : one = true := by
      rcases ho with ho | ⟨j, hj, hj2, _⟩
      · exact ho
      · omega
    subst h1
    simp only [hourglasslaw15_LeasePasses.l0]
    rw [if_neg (by omega), if_pos trivial, hs, Option.bind_some, if_pos hus, awake]; rfl
  | succ d ih =>
    intro k one i h0 hd hk ho
    obtain ⟨k, rfl⟩ : ∃ m, k = m + 1 := ⟨k - 1, by omega⟩
    have hlt : i < (xs.length : Int) := by omega
    have hu := hall i h0 hlt
    simp only [hourglasslaw15_LeasePasses.l0]
    rw [if_pos hlt, if_pos h0, cl_r, Option.bind_some, if_neg (by omega), wrap_next h0 hlt hn]
    cases one with
    | true => rw [if_pos rfl]; exact ih k true (i + 1) (by omega) (by omega) (by omega) (.inl rfl)
    | false =>
      rw [if_neg (by simp), Option.bind_some]
      refine ih k _ (i + 1) (by omega) (by omega) (by omega) ?_
      rcases ho with ho | ⟨j, hj, hj2, hj3⟩
      · cases ho
      · by_cases e : j = i
        · subst e; exact .inl (by simpa using hj3)
        · exact .inr ⟨j, by omega, hj2, hj3⟩

theorem LeasePasses : hourglasslaw15_LeasePasses.Pure := by
  intro a b xs _ _ _ hn _
  by_cases hbig : (xs.length : Int) > 100
  · refine ⟨0, ?_⟩
    unfold hourglasslaw15_LeasePasses.f
    rw [if_pos hbig, awake]; rfl
  · have hn' : (xs.length : Int) ≤ 9223372036854775807 := by omega
    have ha := cl_bounds a
    have hb := cl_bounds b
    have hg : lease_Grant.f a b = some (cl (cl a + cl b)) := by
      simp only [lease_Grant.f, ticks_Add.f, cl_p, Option.bind_some]
      congr 2
      unfold wrap64; omega
    have hadd : hourglassref01_Add.f a b = some (cl (cl a + cl b)) := by
      simp only [hourglassref01_Add.f, cl_r, Option.bind_some]
      have e1 : wrap64 (cl a + cl b) = cl a + cl b := by unfold wrap64; omega
      have e2 : wrap64 (1125899906842624 - cl b) = 1125899906842624 - cl b := by unfold wrap64; omega
      rw [e1, e2]
      generalize cl a = x at *
      generalize cl b = y at *
      split
      · congr 1; unfold cl; rw [if_neg (by omega), if_pos (by omega)]
      · congr 1; unfold cl; rw [if_neg (by omega), if_neg (by omega)]
    obtain ⟨r, hr, h1, h2, h3⟩ := passed xs hn' xs.length (xs.length + 1) (cl (cl a + cl b)) 0 (by omega) (by omega) (by omega)
    refine ⟨xs.length + 1, ?_⟩
    unfold hourglasslaw15_LeasePasses.f lease_Passed.f
    rw [if_neg hbig, hg, Option.bind_some, hr, Option.bind_some, Option.bind_some]
    refine looks a b xs hn' r _ hadd h1 h2 xs.length (xs.length + 1) _ 0 (by omega) (by omega) (by omega) ?_
    rcases h3 with h3 | ⟨j, hj⟩
    · exact .inl (by simpa using h3)
    · exact .inr ⟨j, hj⟩

end Go.Proofs.Ythleomamdaijdaa.Pure

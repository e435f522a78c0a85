/- Wheel: slots, in plain Lean. No program; no condition. -/
import Derived.Lib.Hide
set_option linter.unusedVariables false
set_option linter.unusedSimpArgs false
namespace Go.Proofs.Ytkjokpmlnnjmoaa.Wh

/-- Where a time stands, at a time. -/
def place (n x : Int) : Int × Int :=
  if x ≤ n then (0, n % 64)
  else if n / 64 = x / 64 then (0, x % 64)
  else if n / 4096 = x / 4096 then (1, x / 64 % 64)
  else if n / 262144 = x / 262144 then (2, x / 4096 % 64)
  else if n / 16777216 = x / 16777216 then (3, x / 262144 % 64)
  else (4, 0)

/-- The slot of a time at a level. -/
def partI (n l : Int) : Int := if l = 0 then n % 64 else if l = 1 then n / 64 % 64 else if l = 2 then n / 4096 % 64 else n / 262144 % 64
/-- The first time of a slot of a level. -/
def startI (n l s : Int) : Int := if l = 0 then n / 64 * 64 + s else if l = 1 then n / 4096 * 4096 + s * 64 else if l = 2 then n / 262144 * 262144 + s * 4096 else n / 16777216 * 16777216 + s * 262144

theorem part0 (n : Int) : partI n 0 = n % 64 := by simp [partI]
theorem part1 (n : Int) : partI n 1 = n / 64 % 64 := by simp [partI]
theorem part2 (n : Int) : partI n 2 = n / 4096 % 64 := by simp [partI]
theorem part3 (n : Int) : partI n 3 = n / 262144 % 64 := by simp [partI]
theorem start0 (n s : Int) : startI n 0 s = n / 64 * 64 + s := by simp [startI]
theorem start1 (n s : Int) : startI n 1 s = n / 4096 * 4096 + s * 64 := by simp [startI]
theorem start2 (n s : Int) : startI n 2 s = n / 262144 * 262144 + s * 4096 := by simp [startI]
theorem start3 (n s : Int) : startI n 3 s = n / 16777216 * 16777216 + s * 262144 := by simp [startI]

theorem part_bd (n l : Int) : 0 ≤ partI n l ∧ partI n l < 64 := by
  unfold partI
  split <;> (try split) <;> (try split) <;> omega

theorem place_past {n x : Int} (h : x ≤ n) : place n x = (0, n % 64) := by unfold place; rw [if_pos h]

/-- A time that is to come is not where the past ones are. -/
theorem place_ne {n x : Int} (h : n < x) (h0 : 0 ≤ n) : place n x ≠ (0, n % 64) := by
  unfold place
  rw [if_neg (by omega)]
  split
  · intro e
    injection e with _ e
    omega
  · split
    · simp
    · split
      · simp
      · split <;> simp

theorem place_spec {n x l s : Int} (h0 : 0 ≤ n) (h : n < x) (hp : place n x = (l, s)) :
    (l = 4 ∧ s = 0 ∧ n / 16777216 < x / 16777216) ∨ ((l = 0 ∨ l = 1 ∨ l = 2 ∨ l = 3) ∧ partI n l < s ∧ s < 64 ∧ startI n l s ≤ x) := by
  unfold place at hp
  rw [if_neg (by omega)] at hp
  split at hp
  · injection hp with h1 h2
    subst h1 h2
    right
    rw [part0, start0]
    refine ⟨.inl rfl, ?_, ?_, ?_⟩ <;> omega
  · split at hp
    · injection hp with h1 h2
      subst h1 h2
      right
      rw [part1, start1]
      refine ⟨.inr (.inl rfl), ?_, ?_, ?_⟩ <;> omega
    · split at hp
      · injection hp with h1 h2
        subst h1 h2
        right
        rw [part2, start2]
        refine ⟨.inr (.inr (.inl rfl)), ?_, ?_, ?_⟩ <;> omega
      · split at hp
        · injection hp with h1 h2
          subst h1 h2
          right
          rw [part3, start3]
          refine ⟨.inr (.inr (.inr rfl)), ?_, ?_, ?_⟩ <;> omega
        · injection hp with h1 h2
          subst h1 h2
          left
          exact ⟨rfl, rfl, by omega⟩

theorem start_gt {n l s : Int} (h0 : 0 ≤ n) (hl : l = 0 ∨ l = 1 ∨ l = 2 ∨ l = 3) (hs : partI n l < s) : n < startI n l s := by
  rcases hl with rfl | rfl | rfl | rfl
  · rw [part0] at hs; rw [start0]; omega
  · rw [part1] at hs; rw [start1]; omega
  · rw [part2] at hs; rw [start2]; omega
  · rw [part3] at hs; rw [start3]; omega

/-- What a time's place is, off what it is not. -/
theorem place_of {n x : Int} (h : n < x) : (n / 64 = x / 64 → place n x = (0, x % 64)) ∧ (n / 64 ≠ x / 64 → n / 4096 = x / 4096 → place n x = (1, x / 64 % 64)) ∧ (n / 4096 ≠ x / 4096 → n / 262144 = x / 262144 → place n x = (2, x / 4096 % 64)) ∧ (n / 262144 ≠ x / 262144 → n / 16777216 = x / 16777216 → place n x = (3, x / 262144 % 64)) ∧ (n / 16777216 ≠ x / 16777216 → place n x = (4, 0)) := by
  unfold place
  rw [if_neg (by omega)]
  refine ⟨fun h => by rw [if_pos h], fun h h2 => by rw [if_neg h, if_pos h2], fun h h2 => by rw [if_neg (by omega), if_neg h, if_pos h2], fun h h2 => by rw [if_neg (by omega), if_neg (by omega), if_neg h, if_pos h2], fun h => by rw [if_neg (by omega), if_neg (by omega), if_neg (by omega), if_neg h]⟩

/-- What stands in another list that is not ahead stays there when a list's time comes. -/
theorem place_moved {n x l s l' s' : Int} (h0 : 0 ≤ n) (h : n < x) (hl : l = 0 ∨ l = 1 ∨ l = 2 ∨ l = 3) (hs : partI n l < s) (hs2 : s < 64) (hp : place n x = (l', s')) (hlex : l < l' ∨ (l = l' ∧ s < s')) :
    startI n l s < x ∧ place (startI n l s) x = (l', s') := by
  have hg := start_gt h0 hl hs
  obtain ⟨p0, p1, p2, p3, p4⟩ := place_of h
  by_cases g0 : n / 64 = x / 64
  · rw [p0 g0] at hp
    injection hp with h1 h2
    subst h1 h2
    rcases hl with rfl | rfl | rfl | rfl
    · rw [start0] at hg ⊢
      rw [part0] at hs
      have hx : n / 64 * 64 + s < x := by omega
      exact ⟨hx, (place_of hx).1 (by omega)⟩
    · omega
    · omega
    · omega
  by_cases g1 : n / 4096 = x / 4096
  · rw [p1 g0 g1] at hp
    injection hp with h1 h2
    subst h1 h2
    rcases hl with rfl | rfl | rfl | rfl
    · rw [start0] at hg ⊢
      rw [part0] at hs
      have hx : n / 64 * 64 + s < x := by omega
      exact ⟨hx, (place_of hx).2.1 (by omega) (by omega)⟩
    · rw [start1] at hg ⊢
      rw [part1] at hs
      have hx : n / 4096 * 4096 + s * 64 < x := by omega
      exact ⟨hx, (place_of hx).2.1 (by omega) (by omega)⟩
    · omega
    · omega
  by_cases g2 : n / 262144 = x / 262144
  · rw [p2 g1 g2] at hp
    injection hp with h1 h2
    subst h1 h2
    rcases hl with rfl | rfl | rfl | rfl
    · rw [start0] at hg ⊢
      rw [part0] at hs
      have hx : n / 64 * 64 + s < x := by omega
      exact ⟨hx, (place_of hx).2.2.1 (by omega) (by omega)⟩
    · rw [start1] at hg ⊢
      rw [part1] at hs
      have hx : n / 4096 * 4096 + s * 64 < x := by omega
      exact ⟨hx, (place_of hx).2.2.1 (by omega) (by omega)⟩
    · rw [start2] at hg ⊢
      rw [part2] at hs
      have hx : n / 262144 * 262144 + s * 4096 < x := by omega
      exact ⟨hx, (place_of hx).2.2.1 (by omega) (by omega)⟩
    · omega
  by_cases g3 : n / 16777216 = x / 16777216
  · rw [p3 g2 g3] at hp
    injection hp with h1 h2
    subst h1 h2
    rcases hl with rfl | rfl | rfl | rfl
    · rw [start0] at hg ⊢
      rw [part0] at hs
      have hx : n / 64 * 64 + s < x := by omega
      exact ⟨hx, (place_of hx).2.2.2.1 (by omega) (by omega)⟩
    · rw [start1] at hg ⊢
      rw [part1] at hs
      have hx : n / 4096 * 4096 + s * 64 < x := by omega
      exact ⟨hx, (place_of hx).2.2.2.1 (by omega) (by omega)⟩
    · rw [start2] at hg ⊢
      rw [part2] at hs
      have hx : n / 262144 * 262144 + s * 4096 < x := by omega
      exact ⟨hx, (place_of hx).2.2.2.1 (by omega) (by omega)⟩
    · rw [start3] at hg ⊢
      rw [part3] at hs
      have hx : n / 16777216 * 16777216 + s * 262144 < x := by omega
      exact ⟨hx, (place_of hx).2.2.2.1 (by omega) (by omega)⟩
  · rw [p4 g3] at hp
    injection hp with h1 h2
    subst h1 h2
    rcases hl with rfl | rfl | rfl | rfl
    · rw [start0] at hg ⊢
      rw [part0] at hs
      have hx : n / 64 * 64 + s < x := by omega
      exact ⟨hx, (place_of hx).2.2.2.2 (by omega)⟩
    · rw [start1] at hg ⊢
      rw [part1] at hs
      have hx : n / 4096 * 4096 + s * 64 < x := by omega
      exact ⟨hx, (place_of hx).2.2.2.2 (by omega)⟩
    · rw [start2] at hg ⊢
      rw [part2] at hs
      have hx : n / 262144 * 262144 + s * 4096 < x := by omega
      exact ⟨hx, (place_of hx).2.2.2.2 (by omega)⟩
    · rw [start3] at hg ⊢
      rw [part3] at hs
      have hx : n / 16777216 * 16777216 + s * 262144 < x := by omega
      exact ⟨hx, (place_of hx).2.2.2.2 (by omega)⟩

end Go.Proofs.Ytkjokpmlnnjmoaa.Wh

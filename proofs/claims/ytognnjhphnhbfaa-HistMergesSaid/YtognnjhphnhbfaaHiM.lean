/- Hist: buckets, in plain Lean: a span's bucket, a bucket's least and greatest span. No program; no condition. -/
import Derived.Lib.ItoaNum
set_option linter.unusedVariables false
set_option linter.unusedSimpArgs false
namespace Go.Proofs.Ytognnjhphnhbfaa.Hi

/-- How many bits a span has too many. -/
def ex (c : Nat) : Nat := Lib.bitLen c - 6
/-- The bucket of a span. -/
def ix (c : Nat) : Nat := 32 * ex c + c / 2 ^ ex c
def eI (i : Nat) : Nat := i / 32 - 1
def mI (i : Nat) : Nat := i - 32 * eI i
/-- The least span of a bucket; the first one behind it. -/
def lo (i : Nat) : Nat := mI i * 2 ^ eI i
def up (i : Nat) : Nat := (mI i + 1) * 2 ^ eI i

theorem ex_spec (c : Nat) (h : c < 2 ^ 64) : (ex c = 0 ∧ c < 64) ∨ (0 < ex c ∧ 32 * 2 ^ ex c ≤ c ∧ c < 64 * 2 ^ ex c) := by
  unfold ex
  by_cases h0 : c = 0
  · subst h0
    left
    have : Lib.bitLen 0 = 0 := Lib.bitLenAux_zero 64
    rw [this]
    omega
  · obtain ⟨h1, h2, h3⟩ := Lib.bitLenAux_bounds 64 c h h0
    have e : Lib.bitLen c = Lib.bitLenAux 64 c := rfl
    rw [← e] at h1 h2 h3
    by_cases h6 : Lib.bitLen c ≤ 6
    · left
      have : 2 ^ Lib.bitLen c ≤ 2 ^ 6 := Nat.pow_le_pow_right (by decide) h6
      omega
    · right
      obtain ⟨k, hk⟩ : ∃ k, Lib.bitLen c = k + 6 := ⟨Lib.bitLen c - 6, by omega⟩
      rw [hk] at h2 h3 ⊢
      have e1 : k + 6 - 6 = k := by omega
      have e2 : k + 6 - 1 = k + 5 := by omega
      rw [e2] at h2
      rw [e1]
      rw [Nat.pow_add] at h2 h3
      refine ⟨by omega, ?_, ?_⟩ <;> omega

theorem m_spec (i : Nat) : (eI i = 0 ∧ mI i = i ∧ i < 64) ∨ (0 < eI i ∧ 32 ≤ mI i ∧ mI i < 64 ∧ i = 32 * eI i + mI i) := by
  unfold mI eI
  by_cases h : i < 64
  · left; omega
  · right; omega

theorem pow_lt (a b : Nat) (h : a < b) : 2 * 2 ^ a ≤ 2 ^ b := by
  have := Nat.pow_le_pow_right (n := 2) (by decide) (show a + 1 ≤ b from h)
  rw [Nat.pow_succ] at this
  omega

theorem ix_iff (c i : Nat) (h : c < 2 ^ 64) : ix c = i ↔ lo i ≤ c ∧ c < up i := by
  have hp : ∀ k, 0 < 2 ^ k := fun k => Nat.pow_pos (by decide)
  unfold lo up
  constructor
  · intro hi
    have hd := Nat.div_add_mod c (2 ^ ex c)
    have hm := Nat.mod_lt c (hp (ex c))
    have hme : eI i = ex c ∧ mI i = c / 2 ^ ex c := by
      unfold ix at hi
      rcases ex_spec c h with ⟨h1, h2⟩ | ⟨h1, h2, h3⟩
      · rw [h1] at hi ⊢
        simp at hi
        rcases m_spec i with ⟨a, b, _⟩ | ⟨a, b, d, e⟩
        · exact ⟨a, by rw [b, ← hi]; simp⟩
        · omega
      · have k1 : 32 ≤ c / 2 ^ ex c := (Nat.le_div_iff_mul_le (hp _)).2 h2
        have k2 : c / 2 ^ ex c < 64 := (Nat.div_lt_iff_lt_mul (hp _)).2 h3
        generalize c / 2 ^ ex c = q at *
        generalize ex c = e at *
        have : eI i = e := by unfold eI; omega
        refine ⟨this, ?_⟩
        unfold mI
        omega
    rw [hme.1, hme.2]
    constructor
    · rw [Nat.mul_comm]; omega
    · rw [Nat.add_mul, Nat.mul_comm]; omega
  · rintro ⟨h1, h2⟩
    have hex : ex c = eI i := by
      rcases ex_spec c h with ⟨a, b⟩ | ⟨a, b, d⟩
      · rcases m_spec i with ⟨p, _⟩ | ⟨p, q, r, s⟩
        · omega
        · exfalso
          have h3 := pow_lt 0 (eI i) p
          have h4 : 32 * 2 ^ eI i ≤ mI i * 2 ^ eI i := Nat.mul_le_mul_right _ q
          omega
      · rcases m_spec i with ⟨p, q, r⟩ | ⟨p, q, r, s⟩
        · exfalso
          rw [p, q] at h2
          have h3 := pow_lt 0 (ex c) a
          omega
        · have h4 : 32 * 2 ^ eI i ≤ mI i * 2 ^ eI i := Nat.mul_le_mul_right _ q
          have h5 : (mI i + 1) * 2 ^ eI i ≤ 64 * 2 ^ eI i := Nat.mul_le_mul_right _ (by omega)
          by_cases hlt : ex c < eI i
          · have := pow_lt _ _ hlt; omega
          · by_cases hgt : eI i < ex c
            · have := pow_lt _ _ hgt; omega
            · omega
    unfold ix
    rw [hex]
    have hq : c / 2 ^ eI i = mI i := by
      apply Nat.div_eq_of_lt_le
      · exact h1
      · exact h2
    rw [hq]
    rcases m_spec i with ⟨p, q, r⟩ | ⟨p, q, r, s⟩ <;> omega

theorem lo_succ (i : Nat) : lo (i + 1) = up i := by
  unfold lo up
  by_cases h : (i + 1) % 32 = 0 ∧ 64 ≤ i + 1
  · have e1 : eI (i + 1) = eI i + 1 := by unfold eI; omega
    have e2 : mI (i + 1) = 32 := by unfold mI; rw [e1]; unfold eI; omega
    have e3 : mI i = 63 := by unfold mI eI; omega
    rw [e1, e2, e3, Nat.pow_succ]
    omega
  · have e1 : eI (i + 1) = eI i := by unfold eI; omega
    have e2 : mI (i + 1) = mI i + 1 := by unfold mI; rw [e1]; unfold eI; omega
    rw [e1, e2]

theorem lo_up (i : Nat) : lo i < up i := by
  unfold lo up
  have : 0 < 2 ^ eI i := Nat.pow_pos (by decide)
  rw [Nat.add_mul]
  omega

theorem lo_mono {i j : Nat} (h : i ≤ j) : lo i ≤ lo j := by
  induction h with
  | refl => exact Nat.le_refl _
  | step _ ih => exact Nat.le_trans ih (by rw [lo_succ]; exact Nat.le_of_lt (lo_up _))

theorem ix_mono {c d : Nat} (h : c ≤ d) (hd : d < 2 ^ 64) : ix c ≤ ix d := by
  have h1 := (ix_iff c (ix c) (by omega)).1 rfl
  have h2 := (ix_iff d (ix d) hd).1 rfl
  by_cases hlt : ix d < ix c
  · have := lo_mono (show ix d + 1 ≤ ix c from hlt)
    rw [lo_succ] at this
    omega
  · omega

theorem ix_le {c : Nat} (h : c ≤ 1125899906842624) : ix c ≤ 1472 := by
  have h1 := ix_mono h (by decide)
  have h2 : ix 1125899906842624 = 1472 := by decide +kernel
  omega

theorem lo_last : lo 1472 = 1125899906842624 := by decide +kernel

theorem ix_lo (i : Nat) (h : i ≤ 1472) : ix (lo i) = i := by
  have h1 := lo_mono h
  rw [lo_last] at h1
  exact (ix_iff _ _ (by omega)).2 ⟨Nat.le_refl _, lo_up i⟩

/-- The greatest span of a bucket. -/
def hi (i : Nat) : Nat := if i = 1472 then 1125899906842624 else lo (i + 1) - 1

theorem hi_ge (i : Nat) : lo i ≤ hi i := by
  unfold hi
  split
  · rename_i h; rw [h, lo_last]; exact Nat.le_refl _
  · have := lo_up i; rw [lo_succ]; omega

theorem ix_hi (i : Nat) (h : i ≤ 1472) : ix (hi i) = i := by
  have h0 := hi_ge i
  unfold hi at h0 ⊢
  by_cases he : i = 1472
  · rw [if_pos he, he, ← lo_last]; exact ix_lo 1472 (Nat.le_refl _)
  · rw [if_neg he] at h0 ⊢
    have h1 := lo_mono (show i + 1 ≤ 1472 by omega)
    rw [lo_last] at h1
    have h2 := lo_up i
    rw [← lo_succ] at h2
    exact (ix_iff _ _ (by omega)).2 ⟨h0, by rw [← lo_succ]; omega⟩

theorem le_hi {c : Nat} (h : c ≤ 1125899906842624) : c ≤ hi (ix c) := by
  have h1 := (ix_iff c (ix c) (by omega)).1 rfl
  unfold hi
  split
  · exact h
  · rw [lo_succ]; omega

theorem hi_le (i : Nat) (h : i ≤ 1472) : hi i ≤ 1125899906842624 := by
  unfold hi
  split
  · exact Nat.le_refl _
  · have h1 := lo_mono (show i + 1 ≤ 1472 by omega)
    rw [lo_last] at h1
    omega

/-- A bucket is no wider than a 32nd of what is least in it. -/
theorem width (i : Nat) : hi i - lo i ≤ lo i / 32 := by
  unfold hi
  split
  · rename_i h; rw [h, lo_last]; simp
  · rw [lo_succ]
    unfold lo up
    rcases m_spec i with ⟨a, b, c⟩ | ⟨a, b, c, d⟩
    · rw [a, Nat.add_mul]; omega
    · have h1 : 32 * 2 ^ eI i ≤ mI i * 2 ^ eI i := Nat.mul_le_mul_right _ b
      rw [Nat.add_mul]
      omega

theorem ix_half (c : Nat) (h : 64 ≤ c) (h2 : c < 2 ^ 64) : ix c = 32 + ix (c / 2) := by
  have hb := Lib.bitLen_half c (by omega) h2
  have h6 : 6 ≤ Lib.bitLen (c / 2) := by
    have := Lib.bitLen_shift 5 (c / 2) (by omega) (by omega)
    have h3 : 1 ≤ Lib.bitLen (c / 2 / 2 ^ 5) := by
      have := Lib.bitLen_half (c / 2 / 2 ^ 5) (by omega) (by omega)
      omega
    omega
  have he : ex c = ex (c / 2) + 1 := by unfold ex; omega
  unfold ix
  rw [he, Nat.pow_succ, Nat.mul_comm (2 ^ _) 2, ← Nat.div_div_eq_div_mul]
  omega

theorem ix_small (c : Nat) (h : c < 64) : ix c = c := by
  have : ex c = 0 := by
    rcases ex_spec c (by omega) with ⟨a, _⟩ | ⟨a, b, d⟩
    · exact a
    · have := pow_lt 0 (ex c) a; omega
  unfold ix
  rw [this]
  simp

theorem lo_step (i : Nat) (h : 64 ≤ i) : lo i = 2 * lo (i - 32) := by
  have e1 : eI i = eI (i - 32) + 1 := by unfold eI; omega
  have e2 : mI i = mI (i - 32) := by unfold mI; rw [e1]; unfold eI; omega
  unfold lo
  rw [e1, e2, Nat.pow_succ]
  rw [← Nat.mul_assoc, Nat.mul_comm _ 2]

theorem lo_small (i : Nat) (h : i < 64) : lo i = i := by
  have e1 : eI i = 0 := by unfold eI; omega
  unfold lo mI
  rw [e1]
  simp

end Go.Proofs.Ytognnjhphnhbfaa.Hi

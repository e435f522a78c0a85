/- Hist: a histogram's blocks; the contracts of the small functions. -/
import Derived.Test.YtognnjhphnhbfaaProg
import Derived.Test.YtognnjhphnhbfaaBase
import Derived.Test.YtognnjhphnhbfaaRws
import Derived.Test.YtognnjhphnhbfaaHiM
import Derived.Test.YtognnjhphnhbfaaHiL
import Derived.WalkSpells
import Derived.StillTailTactics
import Derived.Maps.OwnSet
import Derived.Maps.OwnOps
import Derived.Maps.RangeWalk
import Derived.Maps.Ext
import Derived.Maps.Views
import Derived.Lib.SlKeysI
set_option linter.unusedVariables false
set_option linter.unusedSimpArgs false
namespace Go.Proofs.Ytognnjhphnhbfaa.Hi
open Go.RowKit Go.Maps Go.Proofs.Ytognnjhphnhbfaa.Base Go.Proofs.YtognnjhphnhbfaaW.PrintWords Go.Proofs.YtognnjhphnhbfaaW.PrintMore
attribute [local go_sem] max2_mx min2_mn max_two min_two max_three min_three max_four min_four

/-! ### Spans and buckets, as whole numbers -/
def idx (v : Int) : Int := (ix (cl v).toNat : Nat)
def low (i : Int) : Int := if i < 0 then 0 else if 1473 ≤ i then 0 else (lo i.toNat : Nat)
def high (i : Int) : Int := if i < 0 then 0 else if 1473 ≤ i then 0 else (hi i.toNat : Nat)

theorem idx_bd (v : Int) : 0 ≤ idx v ∧ idx v ≤ 1472 := by
  have h := cl_bounds v
  have := ix_le (c := (cl v).toNat) (by omega)
  unfold idx
  omega

theorem clamp_p (a : Int) (w : World) : Calls Try.prog 29 #[.int .i64 a] w fun e w' => e = .returned (.int .i64 (cl a)) ∧ w = w' := by
  have h := cl_mn a
  go_enter Try.func29, Try.ntmps29
  go_wp2
  go_ret
  exact ⟨rfl, rfl⟩

theorem index_p (v : Int) (w : World) : Calls Try.prog 8 #[.int .i64 v] w fun e w' => e = .returned (.int .i64 (idx v)) ∧ w = w' := by
  have hb := cl_bounds v
  have hI := idx_bd v
  have HC := Lib.hid (clamp_p v)
  obtain ⟨I, hi⟩ : ∃ I, I = idx v := ⟨_, rfl⟩
  rw [← hi] at hI ⊢
  unfold idx ix at hi
  generalize cl v = c at *
  obtain ⟨e, he⟩ : ∃ e, e = ex c.toNat := ⟨_, rfl⟩
  rw [← he] at hi
  obtain ⟨B, hB⟩ : ∃ B, B = Lib.bitLen c.toNat := ⟨_, rfl⟩
  have hBl : B ≤ 64 := by rw [hB]; exact Lib.bitLen_le _ 64 (Nat.le_refl _) (by omega)
  have he2 : e = B - 6 := by rw [he, hB]; rfl
  obtain ⟨q, hq⟩ : ∃ q : Int, q = c / 2 ^ e := ⟨_, rfl⟩
  have hqn : q = ((c.toNat / 2 ^ e : Nat) : Int) := by
    rw [hq, Int.natCast_ediv, Int.toNat_of_nonneg hb.1]
    simp
  have hmx : mx (wrap64 (wrap64 ((B : Int) - 5) - 1)) 0 = (e : Int) := by
    have h1 : wrap64 ((B : Int) - 5) = (B : Int) - 5 := by unfold wrap64; omega
    have h2 : wrap64 ((B : Int) - 5 - 1) = (B : Int) - 6 := by unfold wrap64; omega
    rw [h1, h2]
    unfold mx
    split <;> omega
  have hsum : I = 32 * (e : Int) + q := by rw [hi, hqn]; simp
  have hq0 : 0 ≤ q := by rw [hqn]; exact Int.natCast_nonneg _
  have hw1 : wrap64 ((e : Int) * 32) = (e : Int) * 32 := by unfold wrap64; omega
  have hw2 : wrap64 ((e : Int) * 32 + q) = I := by unfold wrap64; omega
  have hel : e ≤ 58 := by omega
  have h0 : (0 : Int) ≤ (e : Int) := by omega
  have h64 : (e : Int) ≤ 64 := by omega
  have hqq : c / 2 ^ e = q := hq.symm
  have HL : Hid (∀ w, Calls Try.prog 30 #[.int .u64 c] w fun e w' => e = .returned (.int .i64 (B : Int)) ∧ w' = w) := Lib.hid (fun w => by rw [hB]; exact Try.bits_Len c w hb.1 (by omega))
  clear hi he he2 hBl hB hq hqn hsum hI hq0 hel
  go_enter Try.func8, Try.ntmps8
  go_wp2_with (first | (go_at_call 29; refine (HC.out _).mono ?_; rintro e w' ⟨rfl, rfl⟩) | (go_at_call 30; refine (HL.out _).mono ?_; rintro e w' ⟨rfl, rfl⟩))
  go_ret
  exact ⟨ret_int hw2, rfl⟩

theorem low_in {i : Int} (h0 : 0 ≤ i) (h1 : i ≤ 1472) : low i = (lo i.toNat : Nat) := by unfold low; rw [if_neg (by omega), if_neg (by omega)]
theorem lo_bd {i : Nat} (h : i ≤ 1472) : lo i ≤ 1125899906842624 := by have := lo_mono h; rw [lo_last] at this; exact this

theorem low_p (i : Int) (w : World) : Calls Try.prog 10 #[.int .i64 i] w fun e w' => e = .returned (.int .i64 (low i)) ∧ w = w' := by
  by_cases h0 : i < 0
  · have : low i = 0 := by unfold low; rw [if_pos h0]
    rw [this]
    have hd : decide (i < 0) = true := decide_eq_true h0
    clear h0
    go_enter Try.func10, Try.ntmps10
    go_wp2
    go_ret
    exact ⟨rfl, rfl⟩
  by_cases h1 : 1473 ≤ i
  · have : low i = 0 := by unfold low; rw [if_neg h0, if_pos h1]
    rw [this]
    have hd : decide (i < 0) = false := decide_eq_false h0
    have hd1 : decide (1473 ≤ i) = true := decide_eq_true h1
    clear h0 h1
    go_enter Try.func10, Try.ntmps10
    go_wp2
    go_ret
    exact ⟨rfl, rfl⟩
  rw [low_in (by omega) (by omega)]
  have hd : decide (i < 0) = false := decide_eq_false h0
  have hd1 : decide (1473 ≤ i) = false := decide_eq_false h1
  have hbd := lo_bd (i := i.toNat) (by omega)
  obtain ⟨n, hn⟩ : ∃ n : Nat, i = n := ⟨i.toNat, by omega⟩
  have hnn : i.toNat = n := by omega
  rw [hnn] at hbd ⊢
  obtain ⟨L, hL⟩ : ∃ L, L = lo n := ⟨_, rfl⟩
  rw [← hL] at hbd ⊢
  unfold lo at hL
  obtain ⟨e, he⟩ : ∃ e, e = eI n := ⟨_, rfl⟩
  obtain ⟨m, hm⟩ : ∃ m, m = mI n := ⟨_, rfl⟩
  rw [← he, ← hm] at hL
  have hen : e = n / 32 - 1 := by rw [he]; rfl
  have hmn : m = n - 32 * e := by rw [hm, he]; rfl
  have hmx : mx (wrap64 (i / 32 - 1)) 0 = (e : Int) := by
    have : wrap64 (i / 32 - 1) = i / 32 - 1 := by unfold wrap64; omega
    rw [this]
    unfold mx
    split <;> omega
  have hw1 : wrap64 ((e : Int) * 32) = (e : Int) * 32 := by unfold wrap64; omega
  have hw2 : wrap64 (i - (e : Int) * 32) = (m : Int) := by unfold wrap64; omega
  have hLi : (m : Int) * 2 ^ e = (L : Int) := by rw [hL]; simp
  have hw3 : wrap64 ((m : Int) * 2 ^ e) = (L : Int) := by rw [hLi]; unfold wrap64; omega
  have h00 : (0 : Int) ≤ (e : Int) := by omega
  have h64 : (e : Int) ≤ 64 := by omega
  clear h0 h1 hen hmn he hm hL hnn hn hLi
  go_enter Try.func10, Try.ntmps10
  go_wp2
  go_ret
  exact ⟨ret_int hw3, rfl⟩

end Go.Proofs.Ytognnjhphnhbfaa.Hi

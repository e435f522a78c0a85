/- Hist: the document's buckets; the first two laws' walks. -/
import Derived.Test.YtognnjhphnhbfaaHiQ
set_option linter.unusedVariables false
set_option linter.unusedSimpArgs false
namespace Go.Proofs.Ytognnjhphnhbfaa.Hi
open Go.RowKit Go.Maps Go.Proofs.Ytognnjhphnhbfaa.Base Go.Proofs.Ytognnjhphnhbfaa.Rws Go.Proofs.YtognnjhphnhbfaaW.PrintWords Go.Proofs.YtognnjhphnhbfaaW.PrintMore
attribute [local go_sem] max2_mx min2_mn max_two min_two max_three min_three max_four min_four

theorem clampR_p (a : Int) (w : World) : Calls Try.prog 15 #[.int .i64 a] w fun e w' => e = .returned (.int .i64 (cl a)) ∧ w = w' := by
  unfold cl
  split
  · go_enter Try.func15, Try.ntmps15
    go_wp2
    go_ret
    exact ⟨rfl, rfl⟩
  · split
    · go_enter Try.func15, Try.ntmps15
      go_wp2
      go_ret
      exact ⟨rfl, rfl⟩
    · go_enter Try.func15, Try.ntmps15
      go_wp2
      go_ret
      exact ⟨rfl, rfl⟩

set_option maxHeartbeats 1000000 in
theorem indexR_p (v : Int) (w : World) : Calls Try.prog 9 #[.int .i64 v] w fun e w' => e = .returned (.int .i64 (idx v)) ∧ w = w' := by
  have hb := cl_bounds v
  have hI := idx_bd v
  have HC := Lib.hid (clampR_p v)
  obtain ⟨c, hc⟩ : ∃ c : Nat, cl v = c := ⟨(cl v).toNat, by omega⟩
  obtain ⟨I, hi⟩ : ∃ I, I = ix c := ⟨_, rfl⟩
  have hidx : idx v = (I : Int) := by unfold idx; rw [hc, hi]; rfl
  rw [hidx] at hI ⊢
  rw [hc] at HC hb
  have HI := Lib.hid hi
  have HIB := Lib.hid hI
  clear hi hidx hI hc
  go_enter Try.func9, Try.ntmps9
  go_wp2_with (go_at_call 15; refine (HC.out _).mono ?_; rintro e w' ⟨rfl, rfl⟩)
  go_loopw [0, 3] (fun v0 v3 wr => ∃ x i : Nat, v0 = .int .i64 (x : Int) ∧ v3 = .int .i64 (i : Int) ∧ x ≤ 1125899906842624 ∧ Hid (i + ix x = I) ∧ Hid (w = wr)) (fun v0 _ _ => (RowKit.intOf v0).toNat)
  case atStart => exact ⟨c, 0, rfl, rfl, by omega, Lib.hid (by rw [HI.out]; omega), Lib.hid rfl⟩
  case round =>
    obtain ⟨x, i, rfl, rfl, hx, HX, HW⟩ := hrel
    have hib : i ≤ 1472 := by have h1 := HX.out; have h2 := HIB.out; omega
    by_cases h64 : 64 ≤ x
    · have hd : decide ((64 : Int) ≤ (x : Int)) = true := decide_eq_true (by omega)
      have ht : Int.tdiv (x : Int) 2 = ((x / 2 : Nat) : Int) := by rw [Int.tdiv_eq_ediv_of_nonneg (by omega)]; omega
      have ht2 : (x : Int) / 2 = ((x / 2 : Nat) : Int) := by omega
      have hw1 : wrap64 ((x / 2 : Nat) : Int) = ((x / 2 : Nat) : Int) := by unfold wrap64; omega
      have hw2 : wrap64 ((i : Int) + 32) = ((i + 32 : Nat) : Int) := by unfold wrap64; omega
      have HX2 : Hid (i + 32 + ix (x / 2) = I) := Lib.hid (by have h1 := HX.out; rw [ix_half x h64 (by omega)] at h1; omega)
      have hlt : x / 2 < x := by omega
      have hxx : x / 2 ≤ 1125899906842624 := by omega
      clear h64
      obtain ⟨j, hj⟩ : ∃ j, j = i + 32 := ⟨_, rfl⟩
      rw [← hj] at HX2 hw2
      have HJ := Lib.hid hj
      clear hj
      generalize x / 2 = y at *
      go_wp2
      go_roundw
      case rel => exact ⟨y, j, rfl, congrArg _ (by have := HJ.out; omega), hxx, HX2, HW⟩
      case measure => simp [RowKit.intOf]; omega
    · have hd : decide ((64 : Int) ≤ (x : Int)) = false := decide_eq_false (by omega)
      have hs : wrap64 ((i : Int) + (x : Int)) = (I : Int) := by
        have h1 := HX.out
        rw [ix_small x (by omega)] at h1
        unfold wrap64
        omega
      clear h64
      go_wp2
      go_ret
      exact ⟨by first | rfl | exact ret_int hs | exact ret_int (by unfold wrap64 at hs; omega), HW.out⟩

set_option maxHeartbeats 1000000 in
theorem lowR_p (i : Int) (w : World) : Calls Try.prog 11 #[.int .i64 i] w fun e w' => e = .returned (.int .i64 (low i)) ∧ w = w' := by
  by_cases h0 : i < 0
  · have : low i = 0 := by unfold low; rw [if_pos h0]
    rw [this]
    have hd : decide (i < 0) = true := decide_eq_true h0
    clear h0
    go_enter Try.func11, Try.ntmps11
    go_wp2
    go_ret
    exact ⟨rfl, rfl⟩
  by_cases h1 : 1472 < i
  · have : low i = 0 := by unfold low; rw [if_neg h0, if_pos (by omega)]
    rw [this]
    have hd : decide (i < 0) = false := decide_eq_false h0
    have hd1 : decide (1472 < i) = true := decide_eq_true h1
    clear h0 h1
    go_enter Try.func11, Try.ntmps11
    go_wp2
    go_ret
    exact ⟨rfl, rfl⟩
  rw [low_in (by omega) (by omega)]
  have hd : decide (i < 0) = false := decide_eq_false h0
  have hd1 : decide (1472 < i) = false := decide_eq_false h1
  have hbd := lo_bd (i := i.toNat) (by omega)
  obtain ⟨n, rfl⟩ : ∃ n : Nat, i = n := ⟨i.toNat, by omega⟩
  have hnn : (n : Int).toNat = n := rfl
  rw [hnn] at hbd ⊢
  have hn : n ≤ 1472 := by omega
  obtain ⟨L, hL⟩ : ∃ L, L = lo n := ⟨_, rfl⟩
  rw [← hL] at hbd ⊢
  have HL := Lib.hid hL
  have HB := Lib.hid hbd
  clear h0 h1 hL hnn hbd
  go_enter Try.func11, Try.ntmps11
  go_wp2
  go_loopw [0, 3] (fun v0 v3 wr => ∃ x t : Nat, v0 = .int .i64 (x : Int) ∧ v3 = .int .i64 (t : Int) ∧ x ≤ 1472 ∧ Hid (lo x * t = L) ∧ Hid (t = 1 ∨ 32 ≤ x) ∧ Hid (w = wr)) (fun v0 _ _ => (RowKit.intOf v0).toNat)
  case atStart => exact ⟨n, 1, rfl, rfl, hn, Lib.hid (by rw [HL.out]; omega), Lib.hid (.inl rfl), Lib.hid rfl⟩
  case round =>
    obtain ⟨x, t, rfl, rfl, hx, HX, HT, HW⟩ := hrel
    by_cases h64 : 64 ≤ x
    · have hdd : decide ((64 : Int) ≤ (x : Int)) = true := decide_eq_true (by omega)
      have hlx : 1 ≤ lo x := by
        have := lo_mono (show 1 ≤ x by omega)
        rw [lo_small 1 (by decide)] at this
        exact this
      have htl : t ≤ 1125899906842624 := by
        have h1 := HX.out
        have h2 := HB.out
        have h3 : 1 * t ≤ lo x * t := Nat.mul_le_mul_right _ hlx
        omega
      have hw1 : wrap64 ((x : Int) - 32) = ((x - 32 : Nat) : Int) := by unfold wrap64; omega
      have hw2 : wrap64 ((t : Int) * 2) = ((t * 2 : Nat) : Int) := by unfold wrap64; omega
      have HX2 : Hid (lo (x - 32) * (t * 2) = L) := Lib.hid (by
        have h1 := HX.out
        rw [lo_step x h64, Nat.mul_assoc, Nat.mul_left_comm] at h1
        rw [← h1, Nat.mul_comm t 2])
      have hlt : x - 32 < x := by omega
      have hxx : x - 32 ≤ 1472 := by omega
      have HT2 : Hid (t * 2 = 1 ∨ 32 ≤ x - 32) := Lib.hid (.inr (by omega))
      clear h64 hlx htl
      generalize x - 32 = y at *
      generalize t * 2 = t2 at *
      go_wp2
      go_roundw
      case rel => exact ⟨y, t2, congrArg _ (by unfold wrap64 at hw1; omega), congrArg _ hw2, hxx, HX2, HT2, HW⟩
      case measure => simp [RowKit.intOf]; omega
    · have hdd : decide ((64 : Int) ≤ (x : Int)) = false := decide_eq_false (by omega)
      have hs : wrap64 ((x : Int) * (t : Int)) = (L : Int) := by
        have h1 := HX.out
        have h2 := HB.out
        rw [lo_small x (by omega)] at h1
        have h3 : (x : Int) * (t : Int) = ((x * t : Nat) : Int) := by simp
        rw [h3, h1]
        unfold wrap64
        omega
      clear h64
      go_wp2
      go_ret
      exact ⟨by first | rfl | exact ret_int hs | exact ret_int (by unfold wrap64 at hs; omega), HW.out⟩

theorem highR_p (i : Int) (w : World) : Calls Try.prog 13 #[.int .i64 i] w fun e w' => e = .returned (.int .i64 (high i)) ∧ w = w' := by
  have HL := Lib.hid (lowR_p (i + 1))
  by_cases h0 : i < 0
  · have : high i = 0 := by unfold high; rw [if_pos h0]
    rw [this]
    have hd : decide (i < 0) = true := decide_eq_true h0
    clear h0
    go_enter Try.func13, Try.ntmps13
    go_wp2
    go_ret
    exact ⟨rfl, rfl⟩
  by_cases h1 : 1472 < i
  · have : high i = 0 := by unfold high; rw [if_neg h0, if_pos (by omega)]
    rw [this]
    have hd : decide (i < 0) = false := decide_eq_false h0
    have hd1 : decide (1472 < i) = true := decide_eq_true h1
    clear h0 h1
    go_enter Try.func13, Try.ntmps13
    go_wp2
    go_ret
    exact ⟨rfl, rfl⟩
  have hd : decide (i < 0) = false := decide_eq_false h0
  have hd1 : decide (1472 < i) = false := decide_eq_false h1
  have hh : high i = (hi i.toNat : Nat) := by unfold high; rw [if_neg h0, if_neg (by omega)]
  rw [hh]
  by_cases h2 : i = 1472
  · subst h2
    have : ((hi (Int.toNat 1472) : Nat) : Int) = 1125899906842624 := by decide +kernel
    rw [this]
    go_enter Try.func13, Try.ntmps13
    go_wp2
    go_ret
    exact ⟨rfl, rfl⟩
  · have hd2 : (i == 1472) = false := by simp [h2]
    have hw1 : wrap64 (i + 1) = i + 1 := by unfold wrap64; omega
    rw [low_in (by omega) (by omega)] at HL
    have hbd := lo_bd (i := (i + 1).toNat) (by omega)
    have hlu := lo_up i.toNat
    obtain ⟨L, hL⟩ : ∃ L, L = lo (i + 1).toNat := ⟨_, rfl⟩
    have hhi : hi i.toNat = L - 1 := by
      unfold hi
      rw [if_neg (by omega), hL]
      congr 2
      omega
    have hL1 : 1 ≤ L := by
      rw [hL, show (i + 1).toNat = i.toNat + 1 by omega, lo_succ]
      omega
    rw [← hL] at HL hbd
    have hw2 : wrap64 ((L : Int) - 1) = ((L - 1 : Nat) : Int) := by unfold wrap64; omega
    rw [hhi]
    clear h0 h1 h2 hh hL hhi hlu
    go_enter Try.func13, Try.ntmps13
    go_wp2_with (go_at_call 11; refine (HL.out _).mono ?_; rintro e w' ⟨rfl, rfl⟩)
    go_ret
    exact ⟨ret_int (by omega), rfl⟩

theorem below_of {w w' : World} (h : Only (fun _ => False) w w') : Below w.heap.size w w' := h.below (Below.refl _ _) (Nat.le_refl _) (fun _ h => h.elim)

theorem buckets_walk (v i : Int) (w : World) : Calls Try.prog 3 #[.int .i64 v, .int .i64 i] w fun e w' => e = .returned (.bool true) ∧ Below w.heap.size w w' := by
  have H8 := Lib.hid (index_p v)
  have H9 := Lib.hid (indexR_p v)
  have H10 := Lib.hid (low_p i)
  have H11 := Lib.hid (lowR_p i)
  have H12 := Lib.hid (high_p i)
  have H13 := Lib.hid (highR_p i)
  have HA : Hid (∀ w, Calls Try.prog 14 #[] w fun e w' => e = .returned (.bool true) ∧ Only (fun _ => False) w w') := Lib.hid awake_p
  generalize idx v = a at *
  generalize low i = b at *
  generalize high i = c at *
  go_enter Try.func3, Try.ntmps3
  go_wp2_with (first
    | (go_at_call 8; refine (H8.out _).mono ?_; rintro e w' ⟨rfl, rfl⟩)
    | (go_at_call 9; refine (H9.out _).mono ?_; rintro e w' ⟨rfl, rfl⟩)
    | (go_at_call 10; refine (H10.out _).mono ?_; rintro e w' ⟨rfl, rfl⟩)
    | (go_at_call 11; refine (H11.out _).mono ?_; rintro e w' ⟨rfl, rfl⟩)
    | (go_at_call 12; refine (H12.out _).mono ?_; rintro e w' ⟨rfl, rfl⟩)
    | (go_at_call 13; refine (H13.out _).mono ?_; rintro e w' ⟨rfl, rfl⟩)
    | (go_at_call 14; refine (HA.out _).mono ?_; rintro e w2 ⟨rfl, o2⟩; have O2 := Lib.hid o2; clear o2))
  go_ret
  exact ⟨rfl, below_of O2.out⟩


/-! ### A span is in its bucket -/
theorem bounds_facts (v : Int) : (0 ≤ idx v ∧ idx v ≤ 1472) ∧ low (idx v) ≤ cl v ∧ cl v ≤ high (idx v) ∧ high (idx v) - low (idx v) ≤ low (idx v) / 32 ∧ (0 < idx v → high (idx v - 1) = low (idx v) - 1) ∧ idx (low (idx v)) = idx v ∧ idx (high (idx v)) = idx v ∧ (0 ≤ low (idx v) ∧ low (idx v) ≤ 1125899906842624) ∧ (0 ≤ high (idx v) ∧ high (idx v) ≤ 1125899906842624) := by
  have hb := cl_bounds v
  have hI := idx_bd v
  obtain ⟨c, hc⟩ : ∃ c : Nat, cl v = c := ⟨(cl v).toNat, by omega⟩
  have hidx : idx v = (ix c : Nat) := by unfold idx; rw [hc]; rfl
  rw [hidx] at hI ⊢
  rw [hc] at hb ⊢
  have hix : ix c ≤ 1472 := by omega
  have hlow : low ((ix c : Nat) : Int) = (lo (ix c) : Nat) := low_in hI.1 hI.2
  have hhigh : high ((ix c : Nat) : Int) = (hi (ix c) : Nat) := by unfold high; rw [if_neg (by omega), if_neg (by omega)]; rfl
  have h1 := (ix_iff c (ix c) (by omega)).1 rfl
  have h2 := le_hi (c := c) (by omega)
  have h3 := width (ix c)
  have h4 := hi_ge (ix c)
  have h5 := lo_bd hix
  have h6 := hi_le _ hix
  have hcl : ∀ n : Nat, n ≤ 1125899906842624 → (cl (n : Int)).toNat = n := fun n hn => by rw [cl_same _ (by omega) (by omega)]; rfl
  rw [hlow, hhigh]
  refine ⟨hI, by omega, by omega, by omega, fun hp => ?_, ?_, ?_, by omega, by omega⟩
  · obtain ⟨m, hm⟩ : ∃ m, ix c = m + 1 := ⟨ix c - 1, by omega⟩
    have e1 : ((ix c : Nat) : Int) - 1 = (m : Nat) := by omega
    rw [e1]
    unfold high
    rw [if_neg (by omega), if_neg (by omega)]
    show ((hi m : Nat) : Int) = _
    unfold hi
    rw [if_neg (by omega), hm]
    have := lo_up m
    rw [← lo_succ] at this
    omega
  · unfold idx
    rw [hcl _ h5, ix_lo _ hix]
  · unfold idx
    rw [hcl _ h6, ix_hi _ hix]

theorem idx_mono {v w : Int} (h : v ≤ w) : idx v ≤ idx w := by
  have h1 := cl_bounds v
  have h2 := cl_bounds w
  have h3 : cl v ≤ cl w := by
    unfold cl
    repeat' split
    all_goals omega
  have := ix_mono (c := (cl v).toNat) (d := (cl w).toNat) (by omega) (by omega)
  unfold idx
  omega

set_option maxHeartbeats 1000000 in
theorem bounds_walk (v u : Int) (w : World) : Calls Try.prog 4 #[.int .i64 v, .int .i64 u] w fun e w' => e = .returned (.bool true) ∧ Below w.heap.size w w' := by
  obtain ⟨f1, f2, f3, f4, f5, f6, f7, f8, f9⟩ := bounds_facts v
  have f10 : ¬ u < v → idx v ≤ idx u := fun h => idx_mono (by omega)
  have H15 := Lib.hid (clampR_p v)
  have H8 := Lib.hid (index_p v)
  have H8u := Lib.hid (index_p u)
  have H8l := Lib.hid (index_p (low (idx v)))
  have H8h := Lib.hid (index_p (high (idx v)))
  have H10 := Lib.hid (low_p (idx v))
  have H12 := Lib.hid (high_p (idx v))
  have H12p := Lib.hid (high_p (idx v - 1))
  have HA : Hid (∀ w, Calls Try.prog 14 #[] w fun e w' => e = .returned (.bool true) ∧ Only (fun _ => False) w w') := Lib.hid awake_p
  rw [f6] at H8l
  rw [f7] at H8h
  clear f6 f7
  generalize low (idx v) = a at *
  generalize high (idx v) = b at *
  generalize high (idx v - 1) = bp at *
  generalize idx v = i at *
  generalize idx u = iu at *
  generalize cl v = c at *
  have hd1 : decide (i < 0) = false := decide_eq_false (by omega)
  have hd2 : decide (1473 ≤ i) = false := decide_eq_false (by omega)
  have hd3 : decide (c < a) = false := decide_eq_false (by omega)
  have hd4 : decide (b < c) = false := decide_eq_false (by omega)
  have hw1 : wrap64 (b - a) = b - a := by unfold wrap64; omega
  have ht : Int.tdiv a 32 = a / 32 := Int.tdiv_eq_ediv_of_nonneg (by omega)
  have hw2 : wrap64 (a / 32) = a / 32 := by unfold wrap64; omega
  have hd5 : decide (a / 32 < b - a) = false := decide_eq_false (by omega)
  have hw3 : wrap64 (i - 1) = i - 1 := by unfold wrap64; omega
  have hw4 : wrap64 (a - 1) = a - 1 := by unfold wrap64; omega
  by_cases hi0 : 0 < i
  · have hbp := f5 hi0
    have hd6 : decide (0 < i) = true := decide_eq_true hi0
    rw [hbp] at H12p
    by_cases hvu : u < v
    · have hd7 : decide (u < v) = true := decide_eq_true hvu
      clear f1 f2 f3 f4 f5 f8 f9 f10 hi0 hvu hbp
      go_enter Try.func4, Try.ntmps4
      go_wp2_with (first
        | (go_at_call 15; refine (H15.out _).mono ?_; rintro e w' ⟨rfl, rfl⟩)
        | (go_at_call 8; with_reducible refine (H8.out _).mono ?_; rintro e w' ⟨rfl, rfl⟩)
        | (go_at_call 8; with_reducible refine (H8l.out _).mono ?_; rintro e w' ⟨rfl, rfl⟩)
        | (go_at_call 8; with_reducible refine (H8h.out _).mono ?_; rintro e w' ⟨rfl, rfl⟩)
        | (go_at_call 8; with_reducible refine (H8u.out _).mono ?_; rintro e w' ⟨rfl, rfl⟩)
        | (go_at_call 10; refine (H10.out _).mono ?_; rintro e w' ⟨rfl, rfl⟩)
        | (go_at_call 12; with_reducible refine (H12.out _).mono ?_; rintro e w' ⟨rfl, rfl⟩)
        | (go_at_call 12; with_reducible refine (H12p.out _).mono ?_; rintro e w' ⟨rfl, rfl⟩)
        | (go_at_call 14; refine (HA.out _).mono ?_; rintro e w2 ⟨rfl, o2⟩; have O2 := Lib.hid o2; clear o2))
      go_ret
      exact ⟨rfl, below_of O2.out⟩
    · have hd7 : decide (u < v) = false := decide_eq_false hvu
      have hd8 : decide (i ≤ iu) = true := decide_eq_true (f10 hvu)
      clear f1 f2 f3 f4 f5 f8 f9 f10 hi0 hvu hbp
      go_enter Try.func4, Try.ntmps4
      go_wp2_with (first
        | (go_at_call 15; refine (H15.out _).mono ?_; rintro e w' ⟨rfl, rfl⟩)
        | (go_at_call 8; with_reducible refine (H8.out _).mono ?_; rintro e w' ⟨rfl, rfl⟩)
        | (go_at_call 8; with_reducible refine (H8l.out _).mono ?_; rintro e w' ⟨rfl, rfl⟩)
        | (go_at_call 8; with_reducible refine (H8h.out _).mono ?_; rintro e w' ⟨rfl, rfl⟩)
        | (go_at_call 8; with_reducible refine (H8u.out _).mono ?_; rintro e w' ⟨rfl, rfl⟩)
        | (go_at_call 10; refine (H10.out _).mono ?_; rintro e w' ⟨rfl, rfl⟩)
        | (go_at_call 12; with_reducible refine (H12.out _).mono ?_; rintro e w' ⟨rfl, rfl⟩)
        | (go_at_call 12; with_reducible refine (H12p.out _).mono ?_; rintro e w' ⟨rfl, rfl⟩)
        | (go_at_call 14; refine (HA.out _).mono ?_; rintro e w2 ⟨rfl, o2⟩; have O2 := Lib.hid o2; clear o2))
      go_ret
      exact ⟨rfl, below_of O2.out⟩
  · have hd6 : decide (0 < i) = false := decide_eq_false hi0
    by_cases hvu : u < v
    · have hd7 : decide (u < v) = true := decide_eq_true hvu
      clear f1 f2 f3 f4 f5 f8 f9 f10 hi0 hvu
      go_enter Try.func4, Try.ntmps4
      go_wp2_with (first
        | (go_at_call 15; refine (H15.out _).mono ?_; rintro e w' ⟨rfl, rfl⟩)
        | (go_at_call 8; with_reducible refine (H8.out _).mono ?_; rintro e w' ⟨rfl, rfl⟩)
        | (go_at_call 8; with_reducible refine (H8l.out _).mono ?_; rintro e w' ⟨rfl, rfl⟩)
        | (go_at_call 8; with_reducible refine (H8h.out _).mono ?_; rintro e w' ⟨rfl, rfl⟩)
        | (go_at_call 8; with_reducible refine (H8u.out _).mono ?_; rintro e w' ⟨rfl, rfl⟩)
        | (go_at_call 10; refine (H10.out _).mono ?_; rintro e w' ⟨rfl, rfl⟩)
        | (go_at_call 12; with_reducible refine (H12.out _).mono ?_; rintro e w' ⟨rfl, rfl⟩)
        | (go_at_call 14; refine (HA.out _).mono ?_; rintro e w2 ⟨rfl, o2⟩; have O2 := Lib.hid o2; clear o2))
      go_ret
      exact ⟨rfl, below_of O2.out⟩
    · have hd7 : decide (u < v) = false := decide_eq_false hvu
      have hd8 : decide (i ≤ iu) = true := decide_eq_true (f10 hvu)
      clear f1 f2 f3 f4 f5 f8 f9 f10 hi0 hvu
      go_enter Try.func4, Try.ntmps4
      go_wp2_with (first
        | (go_at_call 15; refine (H15.out _).mono ?_; rintro e w' ⟨rfl, rfl⟩)
        | (go_at_call 8; with_reducible refine (H8.out _).mono ?_; rintro e w' ⟨rfl, rfl⟩)
        | (go_at_call 8; with_reducible refine (H8l.out _).mono ?_; rintro e w' ⟨rfl, rfl⟩)
        | (go_at_call 8; with_reducible refine (H8h.out _).mono ?_; rintro e w' ⟨rfl, rfl⟩)
        | (go_at_call 8; with_reducible refine (H8u.out _).mono ?_; rintro e w' ⟨rfl, rfl⟩)
        | (go_at_call 10; refine (H10.out _).mono ?_; rintro e w' ⟨rfl, rfl⟩)
        | (go_at_call 12; with_reducible refine (H12.out _).mono ?_; rintro e w' ⟨rfl, rfl⟩)
        | (go_at_call 14; refine (HA.out _).mono ?_; rintro e w2 ⟨rfl, o2⟩; have O2 := Lib.hid o2; clear o2))
      go_ret
      exact ⟨rfl, below_of O2.out⟩

end Go.Proofs.Ytognnjhphnhbfaa.Hi

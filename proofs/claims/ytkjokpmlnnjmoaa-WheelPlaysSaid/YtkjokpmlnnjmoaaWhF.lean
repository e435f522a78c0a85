/- Wheel: the slots' functions. -/
import Derived.Test.YtkjokpmlnnjmoaaWhK
set_option linter.unusedVariables false
set_option linter.unusedSimpArgs false
namespace Go.Proofs.Ytkjokpmlnnjmoaa.Wh
open Go.RowKit Go.Maps Go.Proofs.Ytkjokpmlnnjmoaa.Base Go.Proofs.Ytkjokpmlnnjmoaa.Rws Go.Proofs.YtkjokpmlnnjmoaaW.PrintWords Go.Proofs.YtkjokpmlnnjmoaaW.PrintMore
attribute [local go_sem] max2_mx min2_mn max_two min_two max_three min_three max_four min_four

theorem clamp_p (a : Int) (w : World) : Calls Try.prog 21 #[.int .i64 a] w fun e w' => e = .returned (.int .i64 (cl a)) ∧ w = w' := by
  have h := cl_mn a
  go_enter Try.func21, Try.ntmps21
  go_wp2
  go_ret
  exact ⟨rfl, rfl⟩

theorem and63 (x : Int) (h0 : 0 ≤ x) (h1 : x < 9223372036854775808) : Go.bits .and .i64 x 63 = x % 64 :=
  bits_mask .i64 63 (by decide) (fun n h0 h1 => by rw [IntKind.wrap_i64]; omega) 6 (by decide) x h0 h1

theorem xor_nat (a b : Nat) (ha : a < 2 ^ 63) (hb : b < 2 ^ 63) : Go.bits .xor .i64 a b = ((a ^^^ b : Nat) : Int) := by
  have ha' : a % 2 ^ IntKind.i64.bits = a := Nat.mod_eq_of_lt (Nat.lt_of_lt_of_le ha (by decide))
  have hb' : b % 2 ^ IntKind.i64.bits = b := Nat.mod_eq_of_lt (Nat.lt_of_lt_of_le hb (by decide))
  simp only [bits, BitVec.ofInt_natCast, BitVec.toNat_xor, BitVec.toNat_ofNat, ha', hb']
  have hx := Nat.xor_lt_two_pow ha hb
  rw [IntKind.wrap_i64]; omega

/-- What is put together by exclusive or is nothing above a bit just where both are the same above it. -/
theorem xor_above (n x : Int) (hn : 0 ≤ n ∧ n ≤ 1125899906842624) (hx : 0 ≤ x ∧ x ≤ 1125899906842624) (j : Nat) (hj : j ≤ 64) :
    shr .i64 (Go.bits .xor .i64 n x) j = 0 ↔ n / 2 ^ j = x / 2 ^ j := by
  obtain ⟨a, rfl⟩ := Int.eq_ofNat_of_zero_le hn.1
  obtain ⟨b, rfl⟩ := Int.eq_ofNat_of_zero_le hx.1
  rw [xor_nat a b (by omega) (by omega)]
  unfold shr
  rw [Int.toNat_natCast, Nat.min_eq_left (by simpa [IntKind.bits] using hj)]
  have e : ∀ m : Nat, (m : Int) / 2 ^ j = ((m / 2 ^ j : Nat) : Int) := fun m => by simp
  rw [e, e, e, Int.natCast_inj, show (0 : Int) = ((0 : Nat) : Int) from rfl, Int.natCast_inj]
  rw [← Nat.shiftRight_eq_div_pow, ← Nat.shiftRight_eq_div_pow, ← Nat.shiftRight_eq_div_pow, Nat.shiftRight_xor_distrib]
  generalize a >>> j = p
  generalize b >>> j = q
  constructor
  · intro h
    have h2 : p ^^^ q ^^^ q = 0 ^^^ q := by rw [h]
    rw [Nat.xor_assoc, Nat.xor_self, Nat.xor_zero, Nat.zero_xor] at h2
    exact h2
  · intro h; rw [h, Nat.xor_self]

theorem part_p (t : Int) (l : Int) (hl : l = 0 ∨ l = 1 ∨ l = 2 ∨ l = 3) (w : World) : Calls Try.prog 40 #[.int .i64 t, .int .i64 l] w fun e w' => e = .returned (.int .i64 (partI (cl t) l)) ∧ w = w' := by
  obtain ⟨x, hx⟩ : ∃ x, x = cl t := ⟨_, rfl⟩
  have hb := cl_bounds t
  have HC := Lib.hid (clamp_p t)
  rw [← hx] at HC hb ⊢
  clear hx
  have s1 : shr .i64 x 6 = x / 64 := by simp [shr, IntKind.bits]
  have s2 : shr .i64 x 12 = x / 4096 := by simp [shr, IntKind.bits]
  have s3 : shr .i64 x 18 = x / 262144 := by simp [shr, IntKind.bits]
  rcases hl with rfl | rfl | rfl | rfl
  · go_enter Try.func40, Try.ntmps40
    go_wp2_with (go_at_call 21; refine (HC.out _).mono ?_; rintro e w' ⟨rfl, rfl⟩)
    go_ret
    refine ⟨congrArg (fun z => Ending.returned (Value.int .i64 z)) ?_, rfl⟩
    rw [part0]
    exact and63 x (by omega) (by omega)
  · go_enter Try.func40, Try.ntmps40
    go_wp2_with (go_at_call 21; refine (HC.out _).mono ?_; rintro e w' ⟨rfl, rfl⟩)
    go_ret
    refine ⟨congrArg (fun z => Ending.returned (Value.int .i64 z)) ?_, rfl⟩
    rw [part1]
    exact and63 (x / 64) (by omega) (by omega)
  · go_enter Try.func40, Try.ntmps40
    go_wp2_with (go_at_call 21; refine (HC.out _).mono ?_; rintro e w' ⟨rfl, rfl⟩)
    go_ret
    refine ⟨congrArg (fun z => Ending.returned (Value.int .i64 z)) ?_, rfl⟩
    rw [part2]
    exact and63 (x / 4096) (by omega) (by omega)
  · go_enter Try.func40, Try.ntmps40
    go_wp2_with (go_at_call 21; refine (HC.out _).mono ?_; rintro e w' ⟨rfl, rfl⟩)
    go_ret
    refine ⟨congrArg (fun z => Ending.returned (Value.int .i64 z)) ?_, rfl⟩
    rw [part3]
    exact and63 (x / 262144) (by omega) (by omega)

theorem turn_p (t : Int) (w : World) : Calls Try.prog 42 #[.int .i64 t] w fun e w' => e = .returned (.int .i64 (turnI (cl t))) ∧ w = w' := by
  obtain ⟨x, hx⟩ : ∃ x, x = cl t := ⟨_, rfl⟩
  have hb := cl_bounds t
  have HC := Lib.hid (clamp_p t)
  rw [← hx] at HC hb ⊢
  clear hx
  go_enter Try.func42, Try.ntmps42
  go_wp2_with (go_at_call 21; refine (HC.out _).mono ?_; rintro e w' ⟨rfl, rfl⟩)
  go_ret
  refine ⟨congrArg (fun z => Ending.returned (Value.int .i64 z)) ?_, rfl⟩
  rfl

set_option maxHeartbeats 2000000 in
theorem start_p (now l s : Int) (hl : l = 0 ∨ l = 1 ∨ l = 2 ∨ l = 3) (h0 : 0 ≤ s) (h1 : s < 64) (w : World) : Calls Try.prog 41 #[.int .i64 now, .int .i64 l, .int .i64 s] w fun e w' => e = .returned (.int .i64 (startI (cl now) l s)) ∧ Only (fun _ => False) w w' := by
  obtain ⟨n, hx⟩ : ∃ x, x = cl now := ⟨_, rfl⟩
  have hb := cl_bounds now
  have HC := Lib.hid (clamp_p now)
  rw [← hx] at HC hb ⊢
  clear hx
  have d0 : decide (s < 0) = false := decide_eq_false (by omega)
  have d1 : decide (64 ≤ s) = false := decide_eq_false (by omega)
  have wv : ∀ x : Int, 0 ≤ x → x < 9223372036854775808 → IntKind.i64.wrap x = x := fun x h0 h1 => by rw [IntKind.wrap_i64]; omega
  rcases hl with rfl | rfl | rfl | rfl
  · go_enter Try.func41, Try.ntmps41
    go_wp2_with (go_at_call 21; refine (HC.out _).mono ?_; rintro e w' ⟨rfl, rfl⟩)
    go_quiet (fail)
    go_wp2
    go_ret
    refine ⟨congrArg (fun z => Ending.returned (Value.int .i64 z)) ?_, (Only.refl _ _).drewN _⟩
    rw [start0]
  · go_enter Try.func41, Try.ntmps41
    go_wp2_with (go_at_call 21; refine (HC.out _).mono ?_; rintro e w' ⟨rfl, rfl⟩)
    go_quiet (fail)
    go_wp2
    go_ret
    refine ⟨congrArg (fun z => Ending.returned (Value.int .i64 z)) ?_, (Only.refl _ _).drewN _⟩
    rw [start1]
  · go_enter Try.func41, Try.ntmps41
    go_wp2_with (go_at_call 21; refine (HC.out _).mono ?_; rintro e w' ⟨rfl, rfl⟩)
    go_quiet (fail)
    go_wp2
    go_ret
    refine ⟨congrArg (fun z => Ending.returned (Value.int .i64 z)) ?_, (Only.refl _ _).drewN _⟩
    rw [start2]
  · go_enter Try.func41, Try.ntmps41
    go_wp2_with (go_at_call 21; refine (HC.out _).mono ?_; rintro e w' ⟨rfl, rfl⟩)
    go_quiet (fail)
    go_wp2
    go_ret
    refine ⟨congrArg (fun z => Ending.returned (Value.int .i64 z)) ?_, (Only.refl _ _).drewN _⟩
    rw [start3]

set_option maxHeartbeats 2000000 in
theorem place_p (now t : Int) (w : World) : Calls Try.prog 39 #[.int .i64 now, .int .i64 t] w fun e w' => e = .returned (.tuple #[.int .i64 (place (cl now) (cl t)).1, .int .i64 (place (cl now) (cl t)).2]) ∧ w = w' := by
  obtain ⟨n, hx⟩ : ∃ x, x = cl now := ⟨_, rfl⟩
  obtain ⟨x, hy⟩ : ∃ x, x = cl t := ⟨_, rfl⟩
  have hn := cl_bounds now
  have hb := cl_bounds t
  have HC := Lib.hid (clamp_p now)
  have HD := Lib.hid (clamp_p t)
  rw [← hx] at HC hn ⊢
  rw [← hy] at HD hb ⊢
  have cn : cl n = n := cl_same _ hn.1 hn.2
  have cx : cl x = x := cl_same _ hb.1 hb.2
  have HP : Hid (∀ l, l = 0 ∨ l = 1 ∨ l = 2 ∨ l = 3 → ∀ w, Calls Try.prog 40 #[.int .i64 x, .int .i64 l] w fun e w' => e = .returned (.int .i64 (partI x l)) ∧ w = w') := Lib.hid (fun l hl w => by have := part_p x l hl w; rw [cx] at this; exact this)
  have HQ : Hid (∀ w, Calls Try.prog 40 #[.int .i64 n, .int .i64 0] w fun e w' => e = .returned (.int .i64 (partI n 0)) ∧ w = w') := Lib.hid (fun w => by have := part_p n 0 (.inl rfl) w; rw [cn] at this; exact this)
  clear hx hy cn cx
  by_cases h : x ≤ n
  · rw [place_past h]
    have hd : decide (x ≤ n) = true := decide_eq_true h
    clear h
    go_enter Try.func39, Try.ntmps39
    go_wp2_with (
      first
      | (go_at_call 40; refine (HQ.out _).mono ?_; rintro e w' ⟨rfl, rfl⟩)
      | (go_at_call 21; refine (HC.out _).mono ?_; rintro e w' ⟨rfl, rfl⟩)
      | (go_at_call 21; refine (HD.out _).mono ?_; rintro e w' ⟨rfl, rfl⟩))
    go_ret2
    rw [part0]
    exact ⟨rfl, rfl⟩
  · have hd : decide (x ≤ n) = false := decide_eq_false h
    have hlt : n < x := by omega
    clear h
    obtain ⟨p0, p1, p2, p3, p4⟩ := place_of hlt
    have e1 : shr .i64 (Go.bits .xor .i64 n x) 6 = Go.bits .xor .i64 n x / 64 := by simp [shr, IntKind.bits]
    have e2 : shr .i64 (Go.bits .xor .i64 n x) 12 = Go.bits .xor .i64 n x / 4096 := by simp [shr, IntKind.bits]
    have e3 : shr .i64 (Go.bits .xor .i64 n x) 18 = Go.bits .xor .i64 n x / 262144 := by simp [shr, IntKind.bits]
    have e4 : shr .i64 (Go.bits .xor .i64 n x) 24 = Go.bits .xor .i64 n x / 16777216 := by simp [shr, IntKind.bits]
    have x1 : Go.bits .xor .i64 n x / 64 = 0 ↔ n / 64 = x / 64 := by rw [← e1]; exact xor_above n x hn hb 6 (by decide)
    have x2 : Go.bits .xor .i64 n x / 4096 = 0 ↔ n / 4096 = x / 4096 := by rw [← e2]; exact xor_above n x hn hb 12 (by decide)
    have x3 : Go.bits .xor .i64 n x / 262144 = 0 ↔ n / 262144 = x / 262144 := by rw [← e3]; exact xor_above n x hn hb 18 (by decide)
    have x4 : Go.bits .xor .i64 n x / 16777216 = 0 ↔ n / 16777216 = x / 16777216 := by rw [← e4]; exact xor_above n x hn hb 24 (by decide)
    clear e1 e2 e3 e4 hb hn hlt
    have fz : ∀ a : Int, a ≠ 0 → (a == 0) = false := fun a h => by simp [h]
    have tz : ∀ a : Int, a = 0 → (a == 0) = true := fun a h => by simp [h]
    by_cases g0 : n / 64 = x / 64
    · rw [p0 g0]
      have z0 := tz _ (x1.2 g0)
      clear x1 x2 x3 x4 p0 p1 p2 p3 p4 fz tz g0
      go_enter Try.func39, Try.ntmps39
      go_wp2_with (
        first
        | (go_at_call 21; refine (HC.out _).mono ?_; rintro e w' ⟨rfl, rfl⟩)
        | (go_at_call 21; refine (HD.out _).mono ?_; rintro e w' ⟨rfl, rfl⟩))
      refine wp_loop_rounds 1 ?_
      rw [rounds_succ]
      go_wp2_with (go_at_call 40; refine (HP.out 0 (by decide) _).mono ?_; rintro e w' ⟨rfl, rfl⟩)
      go_ret2
      rw [part0]
      exact ⟨rfl, rfl⟩
    by_cases g1 : n / 4096 = x / 4096
    · rw [p1 g0 g1]
      have z0 := fz _ (fun h => g0 (x1.1 h))
      have z1 := tz _ (x2.2 g1)
      clear x1 x2 x3 x4 p0 p1 p2 p3 p4 fz tz g0 g1
      go_enter Try.func39, Try.ntmps39
      go_wp2_with (
        first
        | (go_at_call 21; refine (HC.out _).mono ?_; rintro e w' ⟨rfl, rfl⟩)
        | (go_at_call 21; refine (HD.out _).mono ?_; rintro e w' ⟨rfl, rfl⟩))
      refine wp_loop_rounds 2 ?_
      rw [rounds_succ]
      go_wp2
      rw [rounds_succ]
      go_wp2_with (go_at_call 40; refine (HP.out 1 (by decide) _).mono ?_; rintro e w' ⟨rfl, rfl⟩)
      go_ret2
      rw [part1]
      exact ⟨rfl, rfl⟩
    by_cases g2 : n / 262144 = x / 262144
    · rw [p2 g1 g2]
      have z0 := fz _ (fun h => g0 (x1.1 h))
      have z1 := fz _ (fun h => g1 (x2.1 h))
      have z2 := tz _ (x3.2 g2)
      clear x1 x2 x3 x4 p0 p1 p2 p3 p4 fz tz g0 g1 g2
      go_enter Try.func39, Try.ntmps39
      go_wp2_with (
        first
        | (go_at_call 21; refine (HC.out _).mono ?_; rintro e w' ⟨rfl, rfl⟩)
        | (go_at_call 21; refine (HD.out _).mono ?_; rintro e w' ⟨rfl, rfl⟩))
      refine wp_loop_rounds 3 ?_
      rw [rounds_succ]
      go_wp2
      rw [rounds_succ]
      go_wp2
      rw [rounds_succ]
      go_wp2_with (go_at_call 40; refine (HP.out 2 (by decide) _).mono ?_; rintro e w' ⟨rfl, rfl⟩)
      go_ret2
      rw [part2]
      exact ⟨rfl, rfl⟩
    by_cases g3 : n / 16777216 = x / 16777216
    · rw [p3 g2 g3]
      have z0 := fz _ (fun h => g0 (x1.1 h))
      have z1 := fz _ (fun h => g1 (x2.1 h))
      have z2 := fz _ (fun h => g2 (x3.1 h))
      have z3 := tz _ (x4.2 g3)
      clear x1 x2 x3 x4 p0 p1 p2 p3 p4 fz tz g0 g1 g2 g3
      go_enter Try.func39, Try.ntmps39
      go_wp2_with (
        first
        | (go_at_call 21; refine (HC.out _).mono ?_; rintro e w' ⟨rfl, rfl⟩)
        | (go_at_call 21; refine (HD.out _).mono ?_; rintro e w' ⟨rfl, rfl⟩))
      refine wp_loop_rounds 4 ?_
      rw [rounds_succ]
      go_wp2
      rw [rounds_succ]
      go_wp2
      rw [rounds_succ]
      go_wp2
      rw [rounds_succ]
      go_wp2_with (go_at_call 40; refine (HP.out 3 (by decide) _).mono ?_; rintro e w' ⟨rfl, rfl⟩)
      go_ret2
      rw [part3]
      exact ⟨rfl, rfl⟩
    rw [p4 g3]
    have z0 := fz _ (fun h => g0 (x1.1 h))
    have z1 := fz _ (fun h => g1 (x2.1 h))
    have z2 := fz _ (fun h => g2 (x3.1 h))
    have z3 := fz _ (fun h => g3 (x4.1 h))
    clear x1 x2 x3 x4 p0 p1 p2 p3 p4 fz tz g0 g1 g2 g3
    go_enter Try.func39, Try.ntmps39
    go_wp2_with (
      first
      | (go_at_call 21; refine (HC.out _).mono ?_; rintro e w' ⟨rfl, rfl⟩)
      | (go_at_call 21; refine (HD.out _).mono ?_; rintro e w' ⟨rfl, rfl⟩))
    refine wp_loop_rounds 5 ?_
    rw [rounds_succ]
    go_wp2
    rw [rounds_succ]
    go_wp2
    rw [rounds_succ]
    go_wp2
    rw [rounds_succ]
    go_wp2
    rw [rounds_succ]
    go_wp2
    go_ret2
    exact ⟨rfl, rfl⟩

end Go.Proofs.Ytkjokpmlnnjmoaa.Wh

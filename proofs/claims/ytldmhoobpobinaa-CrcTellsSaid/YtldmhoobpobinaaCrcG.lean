/- CrcGoes returns true. -/
import Derived.Test.YtldmhoobpobinaaCrcS
set_option linter.unusedVariables false
set_option linter.unusedSimpArgs false
namespace Go.Proofs.Ytldmhoobpobinaa.Crc
open Go.RowKit Go.Proofs.Ytldmhoobpobinaa.Base Go.Proofs.YtldmhoobpobinaaW.PrintWords Go.Proofs.YtldmhoobpobinaaW.PrintMore

theorem mr_append (c : W16) (l m : List UInt8) : mr c (l ++ m) = mr (mr c l) m := List.foldl_append

theorem data_append (s t : ByteArray) : (s ++ t).data.toList = s.data.toList ++ t.data.toList := by simp

theorem goes_more (s t : ByteArray) : moreZ (sumZ s) t t.size = sumZ (s ++ t) := by
  rw [sum_V, more_V, sum_V, data_append, mr_append]

theorem s8_lo {c : W16} (h : ∀ i, 8 ≤ i → c.getLsbD i = false) : s8 c = c <<< 8 := by
  unfold s8
  rw [s4_lo (fun i hi => h i (by omega)), s4_lo (fun i hi => by
    rw [BitVec.getLsbD_shiftLeft]
    have h2 := h (i - 4) (by omega)
    simp [h2]), ← BitVec.shiftLeft_add]

theorem st_end (c : W16) : st (st c (c >>> 8)) (BitVec.ofNat 16 (c.toNat % 256)) = 0#16 := by
  have e1 : c ^^^ ((c >>> 8) <<< 8) = (c <<< 8) >>> 8 := by
    apply BitVec.eq_of_getLsbD_eq
    intro i hi
    rw [BitVec.getLsbD_xor, BitVec.getLsbD_shiftLeft, BitVec.getLsbD_ushiftRight, BitVec.getLsbD_ushiftRight, BitVec.getLsbD_shiftLeft]
    by_cases h : i < 8
    · have h2 : 8 + i < 16 := by omega
      simp [h, h2]
    · have h2 : ¬ 8 + i < 16 := by omega
      have h3 : 8 + (i - 8) = i := by omega
      simp [h, h2, h3, hi]
  have e2 : s8 ((c <<< 8) >>> 8) = c <<< 8 := by
    rw [s8_lo (fun i hi => by
      rw [BitVec.getLsbD_ushiftRight, BitVec.getLsbD_shiftLeft]
      have h2 : ¬ 8 + i < 16 := by omega
      simp [h2])]
    apply BitVec.eq_of_toNat_eq
    simp only [BitVec.toNat_shiftLeft, BitVec.toNat_ushiftRight, Nat.shiftLeft_eq, Nat.shiftRight_eq_div_pow]
    omega
  have e3 : (BitVec.ofNat 16 (c.toNat % 256)) <<< 8 = c <<< 8 := by
    apply BitVec.eq_of_toNat_eq
    simp only [BitVec.toNat_shiftLeft, BitVec.toNat_ofNat, Nat.shiftLeft_eq]
    omega
  unfold st
  rw [e1, e2, e3, BitVec.xor_self]
  decide

theorem bw_hi (c : W16) : bw (UInt8.ofNat (V c / 256).toNat) = c >>> 8 := by
  apply BitVec.eq_of_toNat_eq
  unfold bw V
  have := c.isLt
  rw [BitVec.toNat_ofNat, BitVec.toNat_ushiftRight, Nat.shiftRight_eq_div_pow, UInt8.toNat_ofNat']
  omega
theorem bw_lo (c : W16) : bw (UInt8.ofNat (V c % 256).toNat) = BitVec.ofNat 16 (c.toNat % 256) := by
  apply BitVec.eq_of_toNat_eq
  unfold bw V
  have := c.isLt
  rw [BitVec.toNat_ofNat, BitVec.toNat_ofNat, UInt8.toNat_ofNat']
  omega

theorem seal_sum (s : ByteArray) : sumZ (sealZ s) = 0 := by
  rw [sum_V, sealZ, data_append, mr_append]
  have e : (endZ s).data.toList = [UInt8.ofNat (sumZ s / 256).toNat, UInt8.ofNat (sumZ s % 256).toNat] := rfl
  rw [e, sum_V]
  unfold mr
  simp only [List.foldl_cons, List.foldl_nil]
  rw [bw_hi, bw_lo]
  have := st_end (mr 0xFFFF#16 s.data.toList)
  unfold mr at this
  rw [this]
  rfl

theorem end_size (s : ByteArray) : (endZ s).size = 2 := by unfold endZ; rw [strOfNums_size]; rfl
theorem seal_size (s : ByteArray) : (sealZ s).size = s.size + 2 := by unfold sealZ; rw [ByteArray.size_append, end_size]

theorem seal_open (s : ByteArray) : (sealZ s).extract 0 ((sealZ s).size - 2) = s := by
  rw [seal_size, Nat.add_sub_cancel]
  unfold sealZ
  apply ByteArray.ext
  apply Array.toList_inj.1
  simp
  exact List.take_of_length_le (Nat.le_refl _)

theorem goes_awake (s t : ByteArray) (w : World) (h : 2000 < (s.size : Int) ∨ ¬ 2000 < (s.size : Int) ∧ 2000 < (t.size : Int)) :
    Calls Try.prog 5 #[.string s, .string t] w fun e w' => e = .returned (.bool true) ∧ Below w.heap.size w w' := by
  rcases h with h | ⟨h, h2⟩
  all_goals
    go_enter Try.func5, Try.ntmps5
    go_wp2_with (go_at_call 7; refine (awake_p _).mono ?_; rintro e w5 ⟨rfl, ho5⟩; have HO5 := Lib.hid ho5; clear ho5)
    go_ret
    exact ⟨rfl, HO5.out⟩

set_option maxHeartbeats 1000000 in
theorem goes_main (s t : ByteArray) (w : World) (h : s.size ≤ 2000) (h2 : t.size ≤ 2000) :
    Calls Try.prog 5 #[.string s, .string t] w fun e w' => e = .returned (.bool true) ∧ Below w.heap.size w w' := by
  have h3 : ¬ 2000 < (s.size : Int) := by omega
  have h4 : ¬ 2000 < (t.size : Int) := by omega
  have hq : s.size + t.size ≤ 9223372036854775807 := by omega
  have hq2 : ¬ 9223372036854775807 < s.size + t.size := by omega
  have HA : Hid (∀ W, Calls Try.prog 15 #[.string s] W fun e w' => e = .returned (.string (sealZ s)) ∧ Below W.heap.size W w') := Lib.hid (fun W => seal_p s W (by omega))
  have HB : Hid (∀ W, Calls Try.prog 10 #[.string (sealZ s)] W fun e w' => e = .returned (.tuple #[.string s, .bool true]) ∧ Below W.heap.size W w') := Lib.hid (fun W => by
    have := open_ok (sealZ s) W (by rw [seal_size]; omega) (by rw [seal_size]; omega) (seal_sum s)
    rw [seal_open] at this
    exact this)
  have HC : Hid (∀ W, Calls Try.prog 12 #[.string s] W fun e w' => e = .returned (.int .u16 (sumZ s)) ∧ Below W.heap.size W w') := Lib.hid (fun W => sum_p s W (by omega))
  have HD : Hid (∀ W, Calls Try.prog 8 #[.int .u16 (sumZ s), .string t] W fun e w' => e = .returned (.int .u16 (sumZ (s ++ t))) ∧ Below W.heap.size W w') := Lib.hid (fun W => by
    have := more_p (sumZ s) t W (by omega)
    rw [goes_more] at this
    exact this)
  have HE : Hid (∀ W, Calls Try.prog 12 #[.string (s ++ t)] W fun e w' => e = .returned (.int .u16 (sumZ (s ++ t))) ∧ Below W.heap.size W w') := Lib.hid (fun W => sum_p (s ++ t) W (by rw [ByteArray.size_append]; omega))
  generalize sumZ (s ++ t) = x at *
  generalize sumZ s = y at *
  generalize sealZ s = z at *
  clear h h2
  go_enter Try.func5, Try.ntmps5
  go_wp2_with (first | (go_at_call 15; with_reducible refine (HA.out _).mono ?_; rintro e w1 ⟨rfl, hb1⟩; have HB1 := Lib.hid hb1; clear hb1) | (go_at_call 10; with_reducible refine (HB.out _).mono ?_; rintro e w2 ⟨rfl, hb2⟩; have HB2 := Lib.hid hb2; clear hb2) | (go_at_call 12; with_reducible refine (HC.out _).mono ?_; rintro e w3 ⟨rfl, hb3⟩; have HB3 := Lib.hid hb3; clear hb3) | (go_at_call 8; with_reducible refine (HD.out _).mono ?_; rintro e w4 ⟨rfl, hb4⟩; have HB4 := Lib.hid hb4; clear hb4) | (go_at_call 12; with_reducible refine (HE.out _).mono ?_; rintro e w5 ⟨rfl, hb5⟩; have HB5 := Lib.hid hb5; clear hb5) | (go_at_call 7; refine (awake_p _).mono ?_; rintro e w6 ⟨rfl, ho6⟩; have HO6 := Lib.hid ho6; clear ho6))
  go_ret
  have k2 := HB1.out.trans (HB2.out.mono HB1.out.size)
  have k3 := k2.trans (HB3.out.mono k2.size)
  have k4 := k3.trans (HB4.out.mono k3.size)
  have k5 := k4.trans (HB5.out.mono k4.size)
  exact ⟨rfl, k5.trans (HO6.out.mono k5.size)⟩

theorem goes_walk (s t : ByteArray) (w : World) :
    Calls Try.prog 5 #[.string s, .string t] w fun e w' => e = .returned (.bool true) ∧ Below w.heap.size w w' := by
  by_cases h : 2000 < s.size
  · exact goes_awake s t w (.inl (by omega))
  · by_cases h2 : 2000 < t.size
    · exact goes_awake s t w (.inr ⟨by omega, by omega⟩)
    · exact goes_main s t w (by omega) (by omega)

end Go.Proofs.Ytldmhoobpobinaa.Crc

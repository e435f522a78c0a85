/- CrcLinear returns true. -/
import Derived.Test.YtldmhoobpobinaaCrcS
import Derived.Test.YtldmhoobpobinaaPCrcLinearx1
set_option linter.unusedVariables false
set_option linter.unusedSimpArgs false
namespace Go.Proofs.Ytldmhoobpobinaa.Crc
open Go.Proofs.Ytldmhoobpobinaa.PCrcLinear (hourglasslaw03_both.l0 hourglasslaw03_both.f hourglasslaw03_both.calls)
open Go.RowKit Go.Proofs.Ytldmhoobpobinaa.Base Go.Proofs.YtldmhoobpobinaaW.PrintWords Go.Proofs.YtldmhoobpobinaaW.PrintMore

theorem bt_lo (s : ByteArray) (i : Int) : 0 ≤ bt s i ∧ bt s i ≤ 255 := by
  unfold bt
  split
  · rename_i h
    have := (s[i.toNat]'h).toNat_lt
    omega
  · omega

/-- A byte of a string as a word. -/
def BW (s : ByteArray) (i : Int) : W16 := BitVec.ofNat 16 (bt s i).toNat
theorem BW_V (s : ByteArray) (i : Int) : bt s i = V (BW s i) := by
  have := bt_lo s i
  exact (V_of _ this.1 (by omega)).symm

theorem xor8 (x y : Int) (hx : 0 ≤ x ∧ x ≤ 255) (hy : 0 ≤ y ∧ y ≤ 255) : bits .xor .u8 x y = V (BitVec.ofNat 16 x.toNat ^^^ BitVec.ofNat 16 y.toNat) := by
  obtain ⟨a, rfl⟩ := Int.eq_ofNat_of_zero_le hx.1
  obtain ⟨b, rfl⟩ := Int.eq_ofNat_of_zero_le hy.1
  have ha : a < 2 ^ 8 := by omega
  have hb : b < 2 ^ 8 := by omega
  have hab : a ^^^ b < 2 ^ 8 := Nat.xor_lt_two_pow ha hb
  show IntKind.u8.wrap (((BitVec.ofInt 8 (a : Int)) ^^^ (BitVec.ofInt 8 (b : Int))).toNat : Int) = _
  rw [BitVec.ofInt_natCast, BitVec.ofInt_natCast, IntKind.wrap_u8]
  unfold V
  simp only [Int.toNat_natCast, BitVec.toNat_xor, BitVec.toNat_ofNat]
  rw [Nat.mod_eq_of_lt (show a < 2 ^ 8 from ha), Nat.mod_eq_of_lt (show b < 2 ^ 8 from hb), Nat.mod_eq_of_lt (show a < 2 ^ 16 by omega), Nat.mod_eq_of_lt (show b < 2 ^ 16 by omega)]
  omega

/-- Behind the first bytes, by words. -/
def mI (c : W16) (s : ByteArray) : Nat → W16
  | 0 => c
  | i + 1 => st (mI c s i) (BW s (i : Int))

theorem more_I (c : W16) (s : ByteArray) : ∀ i, moreZ (V c) s i = V (mI c s i)
  | 0 => rfl
  | i + 1 => by rw [moreZ, more_I c s i, BW_V, step_V]; rfl

theorem mI_xor (c d : W16) (a b r : ByteArray) : ∀ n : Nat, (∀ j : Nat, j < n → BW r j = BW a j ^^^ BW b j) → mI (c ^^^ d) r n = mI c a n ^^^ mI d b n
  | 0, _ => rfl
  | n + 1, h => by
    rw [mI, mI, mI, mI_xor c d a b r n (fun j hj => h j (by omega)), h n (by omega), st_xor]

/-- Two strings' bytes, put together. -/
def both (a b : ByteArray) (n : Nat) : List Int := (List.range n).map fun i => bits .xor .u8 (bt a (i : Nat)) (bt b (i : Nat))

theorem both_len (a b : ByteArray) (n : Nat) : (both a b n).length = n := by simp [both]
theorem both_snoc (a b : ByteArray) (n : Nat) : both a b (n + 1) = both a b n ++ [bits .xor .u8 (bt a (n : Nat)) (bt b (n : Nat))] := by
  unfold both; rw [List.range_succ, List.map_append]; rfl

theorem both_run (a b : ByteArray) (hab : a.size = b.size) (hs : a.size ≤ 500) : ∀ (m i k : Nat), i + m = a.size → hourglasslaw03_both.l0 (k + m + 1) a b (both a b i) (i : Int) = some (strOfNums (both a b a.size))
  | 0, i, k, h => by
    have : i = a.size := by omega
    subst this
    rw [hourglasslaw03_both.l0, if_neg (by omega)]
  | m + 1, i, k, h => by
    have e : k + (m + 1) + 1 = (k + m + 1) + 1 := by omega
    rw [e, hourglasslaw03_both.l0, if_pos (by omega), if_pos (by omega), if_pos (by omega), if_pos (by rw [both_len]; omega), ← both_snoc]
    have e2 : wrap64 ((i : Int) + 1) = ((i + 1 : Nat) : Int) := by unfold wrap64; omega
    rw [e2]
    exact both_run a b hab hs m (i + 1) k (by omega)

theorem both_f (a b : ByteArray) (hab : a.size = b.size) (hs : a.size ≤ 500) : hourglasslaw03_both.f (a.size + 1) a b = some (strOfNums (both a b a.size)) := by
  have := both_run a b hab hs a.size 0 0 (by omega)
  rw [Nat.zero_add] at this
  exact this

theorem str_bt (xs : List Int) (j : Nat) (hj : j < xs.length) (h0 : ∀ x ∈ xs, 0 ≤ x ∧ x ≤ 255) : bt (strOfNums xs) (j : Int) = xs[j] := by
  have hx := h0 _ (List.getElem_mem hj)
  unfold bt
  rw [dif_pos (by rw [strOfNums_size]; simpa using hj)]
  have : (strOfNums xs)[(j : Int).toNat]'(by rw [strOfNums_size]; simpa using hj) = UInt8.ofNat (xs[j]).toNat := by
    show ((xs.map fun n => UInt8.ofNat n.toNat).toArray)[(j : Int).toNat]'_ = _
    simp
  rw [this]
  simp
  omega

theorem both_bw (a b : ByteArray) (n j : Nat) (hj : j < n) : BW (strOfNums (both a b n)) (j : Int) = BW a j ^^^ BW b j := by
  apply V_inj
  rw [← BW_V]
  have hr : ∀ x ∈ both a b n, 0 ≤ x ∧ x ≤ 255 := fun x hx => by
    unfold both at hx
    obtain ⟨i, _, rfl⟩ := List.mem_map.1 hx
    exact ⟨bits_lo_u8 _ _ _, bits_hi_u8 _ _ _⟩
  rw [str_bt _ _ (by rw [both_len]; exact hj) hr]
  have : (both a b n)[j]'(by rw [both_len]; exact hj) = bits .xor .u8 (bt a (j : Nat)) (bt b (j : Nat)) := by simp [both]
  rw [this, xor8 _ _ (bt_lo _ _) (bt_lo _ _)]
  rfl

/-- The law, by numbers. -/
theorem linear (a b : ByteArray) (hab : a.size = b.size) (c d : Int) (hc : 0 ≤ c ∧ c ≤ 65535) (hd : 0 ≤ d ∧ d ≤ 65535) :
    moreZ (bits .xor .u16 c d) (strOfNums (both a b a.size)) (strOfNums (both a b a.size)).size = bits .xor .u16 (moreZ c a a.size) (moreZ d b b.size) := by
  have ec := V_of c hc.1 hc.2
  have ed := V_of d hd.1 hd.2
  rw [← ec, ← ed, bits_xor_V, more_I, more_I, more_I, bits_xor_V, strOfNums_size, both_len, ← hab]
  rw [mI_xor _ _ a b _ a.size (fun j hj => both_bw a b _ j hj)]

theorem linear_awake (a b : ByteArray) (c d : Int) (w : World) (h : (a.size : Int) ≠ b.size ∨ (a.size : Int) = b.size ∧ 500 < (a.size : Int)) :
    Calls Try.prog 3 #[.string a, .string b, .int .u16 c, .int .u16 d] w fun e w' => e = .returned (.bool true) ∧ Below w.heap.size w w' := by
  rcases h with h | ⟨h, h2⟩
  · have hb : ((a.size : Int) == (b.size : Int)) = false := by simpa using h
    have hb2 : ((a.size : Int) != (b.size : Int)) = true := by simpa using h
    clear h
    go_enter Try.func3, Try.ntmps3
    go_wp2_with (go_at_call 7; refine (awake_p _).mono ?_; rintro e w5 ⟨rfl, ho5⟩; have HO5 := Lib.hid ho5; clear ho5)
    go_ret
    exact ⟨rfl, HO5.out⟩
  · have hb : ((a.size : Int) == (b.size : Int)) = true := by simpa using h
    have hb2 : ((a.size : Int) != (b.size : Int)) = false := by simpa using h
    clear h
    go_enter Try.func3, Try.ntmps3
    go_wp2_with (go_at_call 7; refine (awake_p _).mono ?_; rintro e w5 ⟨rfl, ho5⟩; have HO5 := Lib.hid ho5; clear ho5)
    go_ret
    exact ⟨rfl, HO5.out⟩

set_option maxHeartbeats 1000000 in
theorem linear_main (a b : ByteArray) (c d : Int) (w : World) (h : a.size = b.size) (h2 : a.size ≤ 500) (hc : 0 ≤ c ∧ c ≤ 65535) (hd : 0 ≤ d ∧ d ≤ 65535) :
    Calls Try.prog 3 #[.string a, .string b, .int .u16 c, .int .u16 d] w fun e w' => e = .returned (.bool true) ∧ Below w.heap.size w w' := by
  have hb : ((a.size : Int) == (b.size : Int)) = true := by simp [h]
  have hb2 : ((a.size : Int) != (b.size : Int)) = false := by simp [h]
  have h5 : ¬ 500 < (a.size : Int) := by omega
  have HA : Hid (∀ W, Calls Try.prog 8 #[.int .u16 c, .string a] W fun e w' => e = .returned (.int .u16 (moreZ c a a.size)) ∧ Below W.heap.size W w') := Lib.hid (fun W => more_p c a W (by omega))
  have HB : Hid (∀ W, Calls Try.prog 8 #[.int .u16 d, .string b] W fun e w' => e = .returned (.int .u16 (moreZ d b b.size)) ∧ Below W.heap.size W w') := Lib.hid (fun W => more_p d b W (by omega))
  have HC : Hid (∀ W, Calls Try.prog 8 #[.int .u16 (bits .xor .u16 c d), .string (strOfNums (both a b a.size))] W fun e w' => e = .returned (.int .u16 (bits .xor .u16 (moreZ c a a.size) (moreZ d b b.size))) ∧ Below W.heap.size W w') := Lib.hid (fun W => by
    have := more_p (bits .xor .u16 c d) (strOfNums (both a b a.size)) W (by rw [strOfNums_size, both_len]; omega)
    rw [linear a b h c d hc hd] at this
    exact this)
  have HD : Hid (∀ W, Calls Try.prog 9 #[.string a, .string b] W fun e w' => e = .returned (.string (strOfNums (both a b a.size))) ∧ Below W.heap.size W w') := Lib.hid (fun W => hourglasslaw03_both.calls (a.size + 1) a b _ W (both_f a b h h2))
  generalize strOfNums (both a b a.size) = r at *
  generalize moreZ c a a.size = x at *
  generalize moreZ d b b.size = y at *
  clear h h2
  go_enter Try.func3, Try.ntmps3
  go_wp2_with (first | (go_at_call 8; with_reducible refine (HA.out _).mono ?_; rintro e w1 ⟨rfl, hb1⟩; have HB1 := Lib.hid hb1; clear hb1) | (go_at_call 8; with_reducible refine (HB.out _).mono ?_; rintro e w2 ⟨rfl, hb2⟩; have HB2 := Lib.hid hb2; clear hb2) | (go_at_call 9; refine (HD.out _).mono ?_; rintro e w3 ⟨rfl, hb3⟩; have HB3 := Lib.hid hb3; clear hb3) | (go_at_call 8; with_reducible refine (HC.out _).mono ?_; rintro e w4 ⟨rfl, hb4⟩; have HB4 := Lib.hid hb4; clear hb4) | (go_at_call 7; refine (awake_p _).mono ?_; rintro e w5 ⟨rfl, ho5⟩; have HO5 := Lib.hid ho5; clear ho5))
  go_ret
  have k2 := HB1.out.trans (HB2.out.mono HB1.out.size)
  have k3 := k2.trans (HB3.out.mono k2.size)
  have k4 := k3.trans (HB4.out.mono k3.size)
  exact ⟨rfl, k4.trans (HO5.out.mono k4.size)⟩

theorem u16_of {a : Int} (h : (Lit.int .u16 a).wf = true) : 0 ≤ a ∧ a ≤ 65535 := by
  simp [Lit.wf, IntKind.min, IntKind.max, IntKind.bits, IntKind.signed] at h
  omega

theorem linear_walk (a b : ByteArray) (c d : Int) (w : World) (hc : (Lit.int .u16 c).wf = true) (hd : (Lit.int .u16 d).wf = true) :
    Calls Try.prog 3 #[.string a, .string b, .int .u16 c, .int .u16 d] w fun e w' => e = .returned (.bool true) ∧ Below w.heap.size w w' := by
  by_cases h : a.size = b.size
  · by_cases h2 : 500 < a.size
    · exact linear_awake a b c d w (.inr ⟨by omega, by omega⟩)
    · exact linear_main a b c d w h (by omega) (u16_of hc) (u16_of hd)
  · exact linear_awake a b c d w (.inl (by omega))

end Go.Proofs.Ytldmhoobpobinaa.Crc

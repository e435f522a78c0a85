/- CrcFinds returns true. -/
import Derived.Test.YtldmhoobpobinaaCrcG
import Derived.Test.YtldmhoobpobinaaCrcL
import Derived.Test.YtldmhoobpobinaaPCrcFindsx1
set_option linter.unusedVariables false
set_option linter.unusedSimpArgs false
namespace Go.Proofs.Ytldmhoobpobinaa.Crc
open Go.Proofs.Ytldmhoobpobinaa.PCrcFinds (hourglassref03_Changed.l0 hourglassref03_Changed.f hourglassref03_Changed.calls)
open Go.RowKit Go.Proofs.Ytldmhoobpobinaa.Base Go.Proofs.YtldmhoobpobinaaW.PrintWords Go.Proofs.YtldmhoobpobinaaW.PrintMore

theorem s1_zero {c : W16} (h : s1 c = 0#16) : c = 0#16 := by
  unfold s1 at h
  cases hm : c.msb with
  | true =>
    rw [hm] at h
    have := congrArg (fun z : W16 => z.getLsbD 0) h
    simp at this
  | false =>
    rw [hm] at h
    simp only [Bool.false_eq_true, if_false, BitVec.xor_zero] at h
    have h1 := congrArg BitVec.toNat h
    rw [BitVec.toNat_shiftLeft, Nat.shiftLeft_eq] at h1
    rw [BitVec.msb_eq_decide] at hm
    have hm2 : ¬ 2 ^ (16 - 1) ≤ c.toNat := of_decide_eq_false hm
    apply BitVec.eq_of_toNat_eq
    simp at h1 hm2 ⊢
    omega
theorem s4_zero {c : W16} (h : s4 c = 0#16) : c = 0#16 := s1_zero (s1_zero (s1_zero (s1_zero h)))
theorem s8_zero {c : W16} (h : s8 c = 0#16) : c = 0#16 := s4_zero (s4_zero h)

/-- What errors leave. -/
def mE (er : Nat → W16) : Nat → W16
  | 0 => 0#16
  | i + 1 => st (mE er i) (er i)

theorem mI_err (c : W16) (t z : ByteArray) (er : Nat → W16) : ∀ n : Nat, (∀ j : Nat, j < n → BW z j = BW t j ^^^ er j) → mI c z n = mI c t n ^^^ mE er n
  | 0, _ => by simp [mI, mE]
  | n + 1, h => by
    rw [mI, mI, mE, mI_err c t z er n (fun j hj => h j (by omega)), h n (by omega), st_xor]

theorem mE_zero (er : Nat → W16) : ∀ n : Nat, (∀ j : Nat, j < n → er j = 0#16) → mE er n = 0#16
  | 0, _ => rfl
  | n + 1, h => by
    rw [mE, mE_zero er n (fun j hj => h j (by omega)), h n (by omega)]
    decide
theorem mE_tail (er : Nat → W16) (m : Nat) (hm : mE er m ≠ 0#16) : ∀ k : Nat, (∀ j : Nat, m ≤ j → j < m + k → er j = 0#16) → mE er (m + k) ≠ 0#16
  | 0, _ => hm
  | k + 1, h => by
    intro h2
    rw [← Nat.add_assoc, mE, h (m + k) (by omega) (by omega)] at h2
    unfold st at h2
    simp only [BitVec.zero_shiftLeft, BitVec.xor_zero] at h2
    exact mE_tail er m hm k (fun j h1 h3 => h j h1 (by omega)) (s8_zero h2)

/-- A byte as a word, by number. -/
def BN (x : Int) : W16 := BitVec.ofNat 16 x.toNat

theorem two_ne {x y : Int} (hx : 0 < x ∧ x ≤ 255) (hy : 0 ≤ y ∧ y ≤ 255) : st (st 0#16 (BN x)) (BN y) ≠ 0#16 := by
  intro h
  have hys : s8 (BN y) = BN y <<< 8 := s8_lo (fun i hi => by
    unfold BN
    rw [BitVec.getLsbD_ofNat]
    have : Nat.testBit y.toNat i = false := Nat.testBit_lt_two_pow (Nat.lt_of_lt_of_le (show y.toNat < 2 ^ 8 by omega) (Nat.pow_le_pow_right (by omega) hi))
    simp [this])
  unfold st at h
  rw [← hys, ← s8_xor] at h
  have h2 := s8_zero (s8_zero h)
  have h3 := congrArg BitVec.toNat h2
  simp only [BitVec.zero_xor] at h2
  have h4 : BN x <<< 8 = BN y := by
    have := congrArg (fun z : W16 => z ^^^ BN y) h2
    simpa [BitVec.xor_assoc] using this
  have h5 := congrArg BitVec.toNat h4
  unfold BN at h5
  rw [BitVec.toNat_shiftLeft, BitVec.toNat_ofNat, BitVec.toNat_ofNat, Nat.shiftLeft_eq] at h5
  omega
theorem one_ne {x : Int} (hx : 0 < x ∧ x ≤ 255) : st 0#16 (BN x) ≠ 0#16 := by
  intro h
  unfold st at h
  have h2 := s8_zero h
  simp only [BitVec.zero_xor] at h2
  have h5 := congrArg BitVec.toNat h2
  unfold BN at h5
  rw [BitVec.toNat_shiftLeft, BitVec.toNat_ofNat, Nat.shiftLeft_eq] at h5
  simp at h5
  omega

/-- A string, one byte of which is another one. -/
def chgL (s : ByteArray) (at' : Nat) (x : Int) (n : Nat) : List Int := (List.range n).map fun i => if i = at' then bits .xor .u8 (bt s (i : Nat)) x else bt s (i : Nat)
def chg (s : ByteArray) (at' : Nat) (x : Int) : ByteArray := strOfNums (chgL s at' x s.size)

theorem chgL_len (s : ByteArray) (at' : Nat) (x : Int) (n : Nat) : (chgL s at' x n).length = n := by simp [chgL]
theorem chgL_snoc (s : ByteArray) (at' : Nat) (x : Int) (n : Nat) : chgL s at' x (n + 1) = chgL s at' x n ++ [if n = at' then bits .xor .u8 (bt s (n : Nat)) x else bt s (n : Nat)] := by
  unfold chgL; rw [List.range_succ, List.map_append]; rfl
theorem chg_size (s : ByteArray) (at' : Nat) (x : Int) : (chg s at' x).size = s.size := by unfold chg; rw [strOfNums_size, chgL_len]

theorem chg_run (s : ByteArray) (at' : Nat) (x : Int) (hs : s.size ≤ 5000) : ∀ (m i k : Nat), i + m = s.size → hourglassref03_Changed.l0 (k + m + 1) s (at' : Int) x (chgL s at' x i) (i : Int) = some (chg s at' x)
  | 0, i, k, h => by
    have : i = s.size := by omega
    subst this
    rw [hourglassref03_Changed.l0, if_neg (by omega)]; rfl
  | m + 1, i, k, h => by
    have e : k + (m + 1) + 1 = (k + m + 1) + 1 := by omega
    have e2 : wrap64 ((i : Int) + 1) = ((i + 1 : Nat) : Int) := by unfold wrap64; omega
    have ih := chg_run s at' x hs m (i + 1) k (by omega)
    rw [chgL_snoc] at ih
    rw [e, hourglassref03_Changed.l0, if_pos (by omega), if_pos (by omega)]
    by_cases c : i = at'
    · rw [if_pos (by omega), if_pos (by rw [chgL_len]; omega), e2]
      rw [if_pos c] at ih
      exact ih
    · rw [if_neg (by omega), if_pos (by rw [chgL_len]; omega), e2]
      rw [if_neg c] at ih
      exact ih

theorem chg_f (s : ByteArray) (at' : Nat) (x : Int) (hs : s.size ≤ 5000) : hourglassref03_Changed.f (s.size + 1) s (at' : Int) x = some (chg s at' x) := by
  have := chg_run s at' x hs s.size 0 0 (by omega)
  rw [Nat.zero_add] at this
  exact this

theorem chg_bw (s : ByteArray) (at' : Nat) (x : Int) (hx : 0 ≤ x ∧ x ≤ 255) (j : Nat) (hj : j < s.size) : BW (chg s at' x) (j : Int) = BW s j ^^^ (if j = at' then BN x else 0#16) := by
  apply V_inj
  rw [← BW_V]
  have hr : ∀ y ∈ chgL s at' x s.size, 0 ≤ y ∧ y ≤ 255 := fun y hy => by
    unfold chgL at hy
    obtain ⟨i, _, rfl⟩ := List.mem_map.1 hy
    split
    · exact ⟨bits_lo_u8 _ _ _, bits_hi_u8 _ _ _⟩
    · exact bt_lo _ _
  unfold chg
  rw [str_bt _ _ (by rw [chgL_len]; exact hj) hr]
  have : (chgL s at' x s.size)[j]'(by rw [chgL_len]; exact hj) = if j = at' then bits .xor .u8 (bt s (j : Nat)) x else bt s (j : Nat) := by simp [chgL]
  rw [this]
  split
  · rw [xor8 _ _ (bt_lo _ _) hx]; rfl
  · rw [BitVec.xor_zero, ← BW_V]

theorem sum_I (s : ByteArray) : sumZ s = V (mI 0xFFFF#16 s s.size) := more_I 0xFFFF#16 s s.size

/-- One error is found. -/
theorem one_found (t : ByteArray) (h0 : sumZ t = 0) (at' : Nat) (hat : at' < t.size) (x : Int) (hx : 0 < x ∧ x ≤ 255) : sumZ (chg t at' x) ≠ 0 := by
  intro h
  rw [sum_I, chg_size, mI_err 0xFFFF#16 t _ (fun j => if j = at' then BN x else 0#16) t.size (fun j hj => chg_bw t at' x ⟨by omega, hx.2⟩ j hj)] at h
  rw [sum_I] at h0
  have e0 : mI 0xFFFF#16 t t.size = 0#16 := V_inj h0
  rw [e0, BitVec.zero_xor] at h
  have e1 : mE (fun j => if j = at' then BN x else 0#16) t.size = 0#16 := V_inj h
  have z : mE (fun j => if j = at' then BN x else 0#16) at' = 0#16 := mE_zero _ _ (fun j hj => if_neg (by omega))
  have n1 : mE (fun j => if j = at' then BN x else 0#16) (at' + 1) ≠ 0#16 := by
    rw [mE, z, if_pos rfl]; exact one_ne hx
  have n2 := mE_tail _ (at' + 1) n1 (t.size - (at' + 1)) (fun j h1 h2 => if_neg (by omega))
  rw [show at' + 1 + (t.size - (at' + 1)) = t.size by omega] at n2
  exact n2 e1

/-- Two side by side are found. -/
theorem two_found (t : ByteArray) (h0 : sumZ t = 0) (at' : Nat) (hat : at' + 1 < t.size) (x y : Int) (hx : 0 < x ∧ x ≤ 255) (hy : 0 ≤ y ∧ y ≤ 255) : sumZ (chg (chg t at' x) (at' + 1) y) ≠ 0 := by
  intro h
  rw [sum_I, chg_size, chg_size, mI_err 0xFFFF#16 t _ (fun j => (if j = at' then BN x else 0#16) ^^^ (if j = at' + 1 then BN y else 0#16)) t.size (fun j hj => by
    rw [chg_bw _ _ y hy j (by rw [chg_size]; exact hj), chg_bw t at' x ⟨by omega, hx.2⟩ j hj, BitVec.xor_assoc])] at h
  rw [sum_I] at h0
  have e0 : mI 0xFFFF#16 t t.size = 0#16 := V_inj h0
  rw [e0, BitVec.zero_xor] at h
  have e1 : mE (fun j => (if j = at' then BN x else 0#16) ^^^ (if j = at' + 1 then BN y else 0#16)) t.size = 0#16 := V_inj h
  have z : mE (fun j => (if j = at' then BN x else 0#16) ^^^ (if j = at' + 1 then BN y else 0#16)) at' = 0#16 := mE_zero _ _ (fun j hj => by
    show (if j = at' then BN x else 0#16) ^^^ (if j = at' + 1 then BN y else 0#16) = 0#16
    rw [if_neg (by omega), if_neg (by omega)]; rfl)
  have n1 : mE (fun j => (if j = at' then BN x else 0#16) ^^^ (if j = at' + 1 then BN y else 0#16)) (at' + 2) ≠ 0#16 := by
    rw [mE, mE, z]
    show st (st 0#16 ((if at' = at' then BN x else 0#16) ^^^ (if at' = at' + 1 then BN y else 0#16))) ((if at' + 1 = at' then BN x else 0#16) ^^^ (if at' + 1 = at' + 1 then BN y else 0#16)) ≠ 0#16
    rw [if_pos rfl, if_neg (show ¬ at' = at' + 1 by omega), if_neg (show ¬ at' + 1 = at' by omega), if_pos rfl, BitVec.xor_zero, BitVec.zero_xor]
    exact two_ne hx hy
  have n2 := mE_tail _ (at' + 2) n1 (t.size - (at' + 2)) (fun j h1 h2 => by
    show (if j = at' then BN x else 0#16) ^^^ (if j = at' + 1 then BN y else 0#16) = 0#16
    rw [if_neg (by omega), if_neg (by omega)]; rfl)
  rw [show at' + 2 + (t.size - (at' + 2)) = t.size by omega] at n2
  exact n2 e1

end Go.Proofs.Ytldmhoobpobinaa.Crc

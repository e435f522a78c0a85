/- Ring: the sum of a string is the document's. -/
import Derived.Test.YtbjepnneklnenaaCrcP
import Derived.Test.YtbjepnneklnenaaRgR
set_option linter.unusedVariables false
set_option linter.unusedSimpArgs false
namespace Go.Proofs.Ytbjepnneklnenaa.Crc
open Go.Proofs.Ytbjepnneklnenaa.PR (hourglassref03_More.l0 hourglassref03_More.l1 hourglassref03_More.f hourglassref03_Sum.f hourglassref03_More.calls hourglassref03_Sum.calls)
open Go.RowKit Go.Proofs.Ytbjepnneklnenaa.Base Go.Proofs.YtbjepnneklnenaaW.PrintWords Go.Proofs.YtbjepnneklnenaaW.PrintMore

def sumZ (s : ByteArray) : Int := moreZ 65535 s s.size

theorem sum_V (s : ByteArray) : sumZ s = V (mr 0xFFFF#16 s.data.toList) := more_V 0xFFFF#16 s
theorem sum_lo (s : ByteArray) : 0 ≤ sumZ s := by rw [sum_V]; exact V_lo _
theorem sum_hi (s : ByteArray) : sumZ s ≤ 65535 := by rw [sum_V]; exact V_hi _

theorem bt_lo (s : ByteArray) (i : Int) : 0 ≤ bt s i ∧ bt s i ≤ 255 := by
  unfold bt
  split
  · rename_i h
    have := (s[i.toNat]'h).toNat_lt
    omega
  · omega

/-- A byte of a string as a word. -/
def BW (s : ByteArray) (i : Int) : W16 := BitVec.ofNat 16 (bt s i).toNat
theorem BW_V (s : ByteArray) (i : Int) : bt s i = V (BW s i) := by
  have := bt_lo s i
  exact (V_of _ this.1 (by omega)).symm

/-- Behind the first bytes, by words. -/
def mI (c : W16) (s : ByteArray) : Nat → W16
  | 0 => c
  | i + 1 => st (mI c s i) (BW s (i : Int))

theorem more_I (c : W16) (s : ByteArray) : ∀ i, moreZ (V c) s i = V (mI c s i)
  | 0 => rfl
  | i + 1 => by rw [moreZ, more_I c s i, BW_V, step_V]; rfl

/-- The reference's step by one bit. -/
def rb (c : W16) (bit : Bool) : W16 := (c <<< 1) ^^^ (if c.msb != bit then 0x1021#16 else 0#16)
def rn (b : W16) : Nat → W16 → W16
  | 0, r => r
  | n + 1, r => rn b n (rb r (b.getLsbD n))
def it : Nat → W16 → W16
  | 0, r => r
  | n + 1, r => it n (s1 r)

theorem s1_rb (r b : W16) (n : Nat) (hn : n ≤ 15) : s1 (r ^^^ (b <<< (15 - n))) = rb r (b.getLsbD n) ^^^ (b <<< (16 - n)) := by
  have hm : (b <<< (15 - n)).msb = b.getLsbD n := by
    rw [BitVec.msb_eq_getLsbD_last, BitVec.getLsbD_shiftLeft]
    have h1 : ¬ 16 - 1 < 15 - n := by omega
    have h2 : 16 - 1 - (15 - n) = n := by omega
    simp only [h1, h2]
    simp
  unfold s1 rb
  rw [BitVec.msb_xor, hm, BitVec.shiftLeft_xor_distrib, ← BitVec.shiftLeft_add, show 15 - n + 1 = 16 - n by omega]
  rw [BitVec.xor_assoc, BitVec.xor_assoc, BitVec.xor_comm (b <<< (16 - n))]

theorem it_rn (b : W16) : ∀ (n : Nat) (r : W16), n ≤ 16 → it n (r ^^^ (b <<< (16 - n))) = rn b n r ^^^ (b <<< 16)
  | 0, r, _ => rfl
  | n + 1, r, h => by
    rw [it, rn, show 16 - (n + 1) = 15 - n by omega, s1_rb r b n (by omega), it_rn b n _ (by omega)]

theorem rn_st (b r : W16) : rn b 8 r = st r b := by
  have h := it_rn b 8 r (by omega)
  have h2 : b <<< 16 = 0#16 := by
    apply BitVec.eq_of_toNat_eq
    rw [BitVec.toNat_shiftLeft, Nat.shiftLeft_eq]; simp
  rw [h2, BitVec.xor_zero] at h
  rw [← h]
  rfl

theorem high_V (c : W16) : IntKind.u16.wrap (Int.tdiv (V c) 32768) = if c.msb then 1 else 0 := by
  have hc := c.isLt
  rw [wrap_u16, BitVec.msb_eq_decide]
  unfold V
  rw [Int.tdiv_eq_ediv_of_nonneg (by omega)]
  by_cases h : 2 ^ (16 - 1) ≤ c.toNat
  · simp only [h, decide_true, if_true]; simp at h; omega
  · simp only [h, decide_false]; simp at h ⊢; omega

theorem bit_V (s : ByteArray) (i : Int) (n : Nat) (hn : n ≤ 7) : Int.tmod (shr .u16 (IntKind.u16.wrap (bt s i)) (IntKind.u64.wrap (n : Int))) 2 = if (BW s i).getLsbD n then 1 else 0 := by
  have hb := bt_lo s i
  unfold BW
  obtain ⟨a, ha⟩ := Int.eq_ofNat_of_zero_le hb.1
  rw [ha] at hb ⊢
  have e1 : IntKind.u16.wrap ((a : Nat) : Int) = a := by rw [wrap_u16]; omega
  have e2 : IntKind.u64.wrap (n : Int) = n := by
    rw [show IntKind.u64.wrap (n : Int) = (n : Int) % 18446744073709551616 by simp [IntKind.wrap, IntKind.bits, IntKind.signed]]; omega
  rw [e1, e2]
  unfold shr
  have e3 : min (n : Int).toNat IntKind.u16.bits = n := by
    have : IntKind.u16.bits = 16 := rfl
    rw [this, Int.toNat_natCast]; omega
  rw [e3, Int.toNat_natCast, BitVec.getLsbD_ofNat, Nat.testBit_eq_decide_div_mod_eq]
  have e4 : ((a : Nat) : Int) / 2 ^ n = ((a / 2 ^ n : Nat) : Int) := by simp
  rw [e4, Int.tmod_eq_emod_of_nonneg (Int.natCast_nonneg _)]
  have hn2 : n < 16 := by omega
  simp only [hn2, decide_true, Bool.true_and]
  by_cases h : a / 2 ^ n % 2 = 1
  · simp only [h, decide_true, if_true]; omega
  · simp only [h, decide_false]; simp; omega

theorem dbl_V (c : W16) : IntKind.u16.wrap (V c * 2) = V (c <<< 1) := by
  unfold V; rw [wrap_u16, BitVec.toNat_shiftLeft, Nat.shiftLeft_eq]; omega

theorem poly_V : (4129 : Int) = V 0x1021#16 := rfl

theorem bits_run (s : ByteArray) (i : Nat) (hi : i < s.size) (hs : s.size ≤ 5000) : ∀ (n F : Nat) (r : W16), n ≤ 8 → hourglassref03_More.l1 (F + n + 1) (V r) s (i : Int) ((n : Int) - 1) = hourglassref03_More.l0 F (V (rn (BW s (i : Int)) n r)) s ((i + 1 : Nat) : Int)
  | 0, F, r, _ => by
    rw [hourglassref03_More.l1, if_neg (by omega)]
    have e : wrap64 ((i : Int) + 1) = ((i + 1 : Nat) : Int) := by unfold wrap64; omega
    rw [e]; rfl
  | n + 1, F, r, hn => by
    have e0 : F + (n + 1) + 1 = (F + n + 1) + 1 := by omega
    have e1 : ((n + 1 : Nat) : Int) - 1 = (n : Int) := by omega
    have e2 : wrap64 ((n : Int) - 1) = (n : Int) - 1 := by unfold wrap64; omega
    have e3 : 0 ≤ IntKind.u64.wrap (n : Int) := by
      rw [show IntKind.u64.wrap (n : Int) = (n : Int) % 18446744073709551616 by simp [IntKind.wrap, IntKind.bits, IntKind.signed]]; omega
    rw [e0, e1, hourglassref03_More.l1, if_pos (by omega), if_pos (by omega), if_pos (by omega), if_pos e3, high_V, bit_V s _ n (by omega), e2, dbl_V, poly_V, bits_xor_V, rn]
    have ih := bits_run s i hi hs n F (rb r ((BW s (i : Int)).getLsbD n)) (by omega)
    rw [← ih]
    unfold rb
    cases r.msb <;> cases (BW s (i : Int)).getLsbD n <;> simp

theorem ref_run (c0 : W16) (s : ByteArray) (hs : s.size ≤ 5000) : ∀ (m i F : Nat), i + m = s.size → hourglassref03_More.l0 (F + 10 * m + 1) (V (mI c0 s i)) s (i : Int) = some (V (mI c0 s s.size))
  | 0, i, F, h => by
    have : i = s.size := by omega
    subst this
    rw [hourglassref03_More.l0, if_neg (by omega)]
  | m + 1, i, F, h => by
    rw [show F + 10 * (m + 1) + 1 = (F + 10 * m + 1 + 8 + 1) + 1 by omega, hourglassref03_More.l0, if_pos (by omega)]
    have h1 := bits_run s i (by omega) hs 8 (F + 10 * m + 1) (mI c0 s i) (by omega)
    rw [show ((8 : Nat) : Int) - 1 = 7 by omega] at h1
    rw [h1, rn_st]
    exact ref_run c0 s hs m (i + 1) F (by omega)

theorem ref_more (c0 : W16) (s : ByteArray) (hs : s.size ≤ 5000) (F : Nat) : hourglassref03_More.f (F + 10 * s.size + 1) (V c0) s = some (moreZ (V c0) s s.size) := by
  rw [more_I]
  exact ref_run c0 s hs s.size 0 F (by omega)

theorem ref_sum (s : ByteArray) (hs : s.size ≤ 5000) (F : Nat) : hourglassref03_Sum.f (F + 10 * s.size + 1) s = some (sumZ s) := by
  unfold hourglassref03_Sum.f
  have := ref_more 0xFFFF#16 s hs F
  rw [show V 0xFFFF#16 = (65535 : Int) from rfl] at this
  rw [this]; rfl

end Go.Proofs.Ytbjepnneklnenaa.Crc

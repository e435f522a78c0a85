/- crc by plain words of 16 bits: its step is linear, and is eight bits' steps. No program, no memory. -/
import Derived.Test.YtbjepnneklnenaaCrcM
set_option linter.unusedVariables false
set_option linter.unusedSimpArgs false
namespace Go.Proofs.Ytbjepnneklnenaa.Crc
open Go.RowKit Go.Proofs.Ytbjepnneklnenaa.Base Go.Proofs.YtbjepnneklnenaaW.PrintWords Go.Proofs.YtbjepnneklnenaaW.PrintMore

abbrev W16 := BitVec 16

/-- A word as the program has it. -/
def V (c : W16) : Int := (c.toNat : Int)

theorem V_lo (c : W16) : 0 ≤ V c := by unfold V; omega
theorem V_hi (c : W16) : V c ≤ 65535 := by have := c.isLt; unfold V; omega
theorem V_inj {a b : W16} (h : V a = V b) : a = b := by
  unfold V at h
  exact BitVec.eq_of_toNat_eq (by omega)
theorem V_of (x : Int) (h0 : 0 ≤ x) (h1 : x ≤ 65535) : V (BitVec.ofNat 16 x.toNat) = x := by
  unfold V; rw [BitVec.toNat_ofNat]; omega

theorem wrap_u16 (n : Int) : IntKind.u16.wrap n = n % 65536 := by simp [IntKind.wrap, IntKind.bits, IntKind.signed]

theorem bits_xor_V (a b : W16) : bits .xor .u16 (V a) (V b) = V (a ^^^ b) := by
  have ha : BitVec.ofInt 16 (a.toNat : Int) = a := by rw [BitVec.ofInt_natCast]; simp
  have hb : BitVec.ofInt 16 (b.toNat : Int) = b := by rw [BitVec.ofInt_natCast]; simp
  have := (a ^^^ b).isLt
  show IntKind.u16.wrap (((BitVec.ofInt 16 (a.toNat : Int)) ^^^ (BitVec.ofInt 16 (b.toNat : Int))).toNat : Int) = _
  rw [ha, hb, wrap_u16]; unfold V; omega

theorem shl_V (a : W16) : IntKind.u16.wrap (V a * 16) = V (a <<< 4) := by
  unfold V; rw [wrap_u16, BitVec.toNat_shiftLeft, Nat.shiftLeft_eq]; omega
theorem shl8_V (a : W16) : IntKind.u16.wrap (V a * 256) = V (a <<< 8) := by
  unfold V; rw [wrap_u16, BitVec.toNat_shiftLeft, Nat.shiftLeft_eq]; omega
theorem shr_V (a : W16) : V a / (4096 : Int) = V (a >>> 12) := by
  unfold V; rw [BitVec.toNat_ushiftRight, Nat.shiftRight_eq_div_pow]; omega

/-- One bit's step. -/
def s1 (c : W16) : W16 := (c <<< 1) ^^^ (if c.msb then 0x1021#16 else 0#16)

theorem s1_xor (a b : W16) : s1 (a ^^^ b) = s1 a ^^^ s1 b := by
  unfold s1
  rw [BitVec.msb_xor, BitVec.shiftLeft_xor_distrib]
  generalize a <<< 1 = x
  generalize b <<< 1 = y
  cases a.msb <;> cases b.msb <;> simp
  · rw [BitVec.xor_assoc]
  · rw [BitVec.xor_assoc, BitVec.xor_comm y, BitVec.xor_assoc]
  · rw [show x ^^^ 4129#16 ^^^ (y ^^^ 4129#16) = x ^^^ y ^^^ (4129#16 ^^^ 4129#16) by ac_rfl]; simp

def s4 (c : W16) : W16 := s1 (s1 (s1 (s1 c)))
def s8 (c : W16) : W16 := s4 (s4 c)

theorem s4_xor (a b : W16) : s4 (a ^^^ b) = s4 a ^^^ s4 b := by unfold s4; simp only [s1_xor]
theorem s8_xor (a b : W16) : s8 (a ^^^ b) = s8 a ^^^ s8 b := by unfold s8; simp only [s4_xor]

theorem s1_lo {c : W16} (h : c.msb = false) : s1 c = c <<< 1 := by unfold s1; rw [h]; simp

theorem s4_lo {c : W16} (h : ∀ i, 12 ≤ i → c.getLsbD i = false) : s4 c = c <<< 4 := by
  have h0 : c.msb = false := by rw [BitVec.msb_eq_getLsbD_last]; exact h 15 (by omega)
  have h1 : (c <<< 1).msb = false := by rw [BitVec.msb_eq_getLsbD_last, BitVec.getLsbD_shiftLeft]; have hh := h 14 (by omega); simp at hh ⊢; exact hh
  have h2 : (c <<< 2).msb = false := by rw [BitVec.msb_eq_getLsbD_last, BitVec.getLsbD_shiftLeft]; have hh := h 13 (by omega); simp at hh ⊢; exact hh
  have h3 : (c <<< 3).msb = false := by rw [BitVec.msb_eq_getLsbD_last, BitVec.getLsbD_shiftLeft]; have hh := h 12 (by omega); simp at hh ⊢; exact hh
  unfold s4
  rw [s1_lo h0, s1_lo h1, ← BitVec.shiftLeft_add, s1_lo h2, ← BitVec.shiftLeft_add, s1_lo h3, ← BitVec.shiftLeft_add]

/-- The table's entries are four bits' steps. -/
theorem tab_s4 : ∀ i, i < 16 → tab i = V (s4 (BitVec.ofNat 16 i <<< 12)) := by decide +kernel

/-- A nibble's step. -/
theorem nib_V (c : W16) : nibZ (V c) = V (s4 c) := by
  unfold nibZ
  have hlt : (c >>> 12).toNat < 16 := by rw [BitVec.toNat_ushiftRight, Nat.shiftRight_eq_div_pow]; have := c.isLt; omega
  rw [shl_V, shr_V]
  have e0 : (V (c >>> 12)).toNat = (c >>> 12).toNat := by unfold V; omega
  rw [e0, tab_s4 _ hlt, bits_xor_V]
  have e1 : BitVec.ofNat 16 (c >>> 12).toNat = c >>> 12 := BitVec.eq_of_toNat_eq (by rw [BitVec.toNat_ofNat]; exact Nat.mod_eq_of_lt (BitVec.isLt _))
  rw [e1]
  congr 1
  have hc : c = ((c >>> 12) <<< 12) ^^^ ((c <<< 4) >>> 4) := by
    apply BitVec.eq_of_getLsbD_eq
    intro i hi
    rw [BitVec.getLsbD_xor, BitVec.getLsbD_shiftLeft, BitVec.getLsbD_ushiftRight, BitVec.getLsbD_ushiftRight, BitVec.getLsbD_shiftLeft]
    by_cases h : i < 12
    · have h2 : 4 + i < 16 := by omega
      simp [h, h2]
    · have h2 : ¬ 4 + i < 16 := by omega
      have h3 : 12 + (i - 12) = i := by omega
      simp [h, h2, h3, hi]
  have hl : s4 ((c <<< 4) >>> 4) = c <<< 4 := by
    rw [s4_lo (fun i hi => by
      rw [BitVec.getLsbD_ushiftRight, BitVec.getLsbD_shiftLeft]
      have h2 : ¬ 4 + i < 16 := by omega
      simp [h2])]
    apply BitVec.eq_of_getLsbD_eq
    intro i hi
    rw [BitVec.getLsbD_shiftLeft, BitVec.getLsbD_ushiftRight, BitVec.getLsbD_shiftLeft, BitVec.getLsbD_shiftLeft]
    by_cases h : i < 4
    · simp [h]
    · have h2 : 4 + (i - 4) = i := by omega
      have h3 : ¬ i - 4 + 4 < 4 := by omega
      simp [h, h2, hi]
  have : s4 c = s4 ((c >>> 12) <<< 12) ^^^ s4 ((c <<< 4) >>> 4) := by rw [← s4_xor, ← hc]
  rw [this, hl, BitVec.xor_comm]

/-- A byte as a word. -/
def bw (b : UInt8) : W16 := BitVec.ofNat 16 b.toNat
theorem bw_V (b : UInt8) : (b.toNat : Int) = V (bw b) := by
  have := b.toNat_lt
  unfold V bw; rw [BitVec.toNat_ofNat, Nat.mod_eq_of_lt (by omega)]

/-- A byte's step. -/
def st (c b : W16) : W16 := s8 (c ^^^ (b <<< 8))

theorem step_V (c b : W16) : stepZ (V c) (V b) = V (st c b) := by
  unfold stepZ mixZ st s8
  have e : IntKind.u16.wrap (V b) = V b := by rw [wrap_u16]; have := V_lo b; have := V_hi b; omega
  rw [e, shl8_V, bits_xor_V, nib_V, nib_V]

theorem st_xor (c d x y : W16) : st (c ^^^ d) (x ^^^ y) = st c x ^^^ st d y := by
  unfold st
  rw [← s8_xor, BitVec.shiftLeft_xor_distrib]
  congr 1
  ac_rfl

/-- Behind these bytes. -/
def mr (c : W16) (l : List UInt8) : W16 := l.foldl (fun c b => st c (bw b)) c

theorem bt_get (s : ByteArray) (i : Nat) (h : i < s.size) : bt s (i : Int) = V (bw (s[i]'h)) := by
  unfold bt; rw [Int.toNat_natCast, dif_pos h, bw_V]

theorem more_take (c : W16) (s : ByteArray) : ∀ i, i ≤ s.size → moreZ (V c) s i = V (mr c (s.data.toList.take i))
  | 0, _ => rfl
  | i + 1, h => by
    have hi : i < s.data.toList.length := by have : s.size = s.data.toList.length := rfl
                                             omega
    rw [moreZ, more_take c s i (by omega), bt_get s i (by omega), step_V, List.take_add_one, List.getElem?_eq_getElem hi]
    unfold mr
    rw [List.foldl_append]
    rfl

theorem more_V (c : W16) (s : ByteArray) : moreZ (V c) s s.size = V (mr c s.data.toList) := by
  rw [more_take c s s.size (Nat.le_refl _)]
  congr 2
  exact List.take_of_length_le (Nat.le_refl _)

end Go.Proofs.Ytbjepnneklnenaa.Crc

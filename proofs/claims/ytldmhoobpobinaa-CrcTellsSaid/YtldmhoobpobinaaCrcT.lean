/- The reference's sums are the program's. -/
import Derived.Test.YtldmhoobpobinaaCrcF
import Derived.Test.YtldmhoobpobinaaPCrcTellsx1
set_option linter.unusedVariables false
set_option linter.unusedSimpArgs false
namespace Go.Proofs.Ytldmhoobpobinaa.Crc
open Go.Proofs.Ytldmhoobpobinaa.PCrcTells (hourglassref03_More.l0 hourglassref03_More.l1 hourglassref03_More.f hourglassref03_Sum.f hourglassref03_Seal.f hourglassref03_Open.f hourglassref03_More.calls hourglassref03_Sum.calls hourglassref03_Seal.calls hourglassref03_Open.calls)
open Go.RowKit Go.Proofs.Ytldmhoobpobinaa.Base Go.Proofs.YtldmhoobpobinaaW.PrintWords Go.Proofs.YtldmhoobpobinaaW.PrintMore

/-- The reference's step by one bit. -/
def rb (c : W16) (bit : Bool) : W16 := (c <<< 1) ^^^ (if c.msb != bit then 0x1021#16 else 0#16)
def rn (b : W16) : Nat → W16 → W16
  | 0, r => r
  | n + 1, r => rn b n (rb r (b.getLsbD n))
def it : Nat → W16 → W16
  | 0, r => r
  | n + 1, r => it n (s1 r)

theorem s1_rb (r b : W16) (n : Nat) (hn : n ≤ 15) : s1 (r ^^^ (b <<< (15 - n))) = rb r (b.getLsbD n) ^^^ (b <<< (16 - n)) := by
  have hm : (b <<< (15 - n)).msb = b.getLsbD n := by
    rw [BitVec.msb_eq_getLsbD_last, BitVec.getLsbD_shiftLeft]
    have h1 : ¬ 16 - 1 < 15 - n := by omega
    have h2 : 16 - 1 - (15 - n) = n := by omega
    simp only [h1, h2]
    simp
  unfold s1 rb
  rw [BitVec.msb_xor, hm, BitVec.shiftLeft_xor_distrib, ← BitVec.shiftLeft_add, show 15 - n + 1 = 16 - n by omega]
  rw [BitVec.xor_assoc, BitVec.xor_assoc, BitVec.xor_comm (b <<< (16 - n))]

theorem it_rn (b : W16) : ∀ (n : Nat) (r : W16), n ≤ 16 → it n (r ^^^ (b <<< (16 - n))) = rn b n r ^^^ (b <<< 16)
  | 0, r, _ => rfl
  | n + 1, r, h => by
    rw [it, rn, show 16 - (n + 1) = 15 - n by omega, s1_rb r b n (by omega), it_rn b n _ (by omega)]

theorem rn_st (b r : W16) : rn b 8 r = st r b := by
  have h := it_rn b 8 r (by omega)
  have h2 : b <<< 16 = 0#16 := by
    apply BitVec.eq_of_toNat_eq
    rw [BitVec.toNat_shiftLeft, Nat.shiftLeft_eq]; simp
  rw [h2, BitVec.xor_zero] at h
  rw [← h]
  rfl

theorem high_V (c : W16) : IntKind.u16.wrap (Int.tdiv (V c) 32768) = if c.msb then 1 else 0 := by
  have hc := c.isLt
  rw [wrap_u16, BitVec.msb_eq_decide]
  unfold V
  rw [Int.tdiv_eq_ediv_of_nonneg (by omega)]
  by_cases h : 2 ^ (16 - 1) ≤ c.toNat
  · simp only [h, decide_true, if_true]; simp at h; omega
  · simp only [h, decide_false]; simp at h ⊢; omega

theorem bit_V (s : ByteArray) (i : Int) (n : Nat) (hn : n ≤ 7) : Int.tmod (shr .u16 (IntKind.u16.wrap (bt s i)) (IntKind.u64.wrap (n : Int))) 2 = if (BW s i).getLsbD n then 1 else 0 := by
  have hb := bt_lo s i
  unfold BW
  obtain ⟨a, ha⟩ := Int.eq_ofNat_of_zero_le hb.1
  rw [ha] at hb ⊢
  have e1 : IntKind.u16.wrap ((a : Nat) : Int) = a := by rw [wrap_u16]; omega
  have e2 : IntKind.u64.wrap (n : Int) = n := by
    rw [show IntKind.u64.wrap (n : Int) = (n : Int) % 18446744073709551616 by simp [IntKind.wrap, IntKind.bits, IntKind.signed]]; omega
  rw [e1, e2]
  unfold shr
  have e3 : min (n : Int).toNat IntKind.u16.bits = n := by
    have : IntKind.u16.bits = 16 := rfl
    rw [this, Int.toNat_natCast]; omega
  rw [e3, Int.toNat_natCast, BitVec.getLsbD_ofNat, Nat.testBit_eq_decide_div_mod_eq]
  have e4 : ((a : Nat) : Int) / 2 ^ n = ((a / 2 ^ n : Nat) : Int) := by simp
  rw [e4, Int.tmod_eq_emod_of_nonneg (Int.natCast_nonneg _)]
  have hn2 : n < 16 := by omega
  simp only [hn2, decide_true, Bool.true_and]
  by_cases h : a / 2 ^ n % 2 = 1
  · simp only [h, decide_true, if_true]; omega
  · simp only [h, decide_false]; simp; omega

theorem dbl_V (c : W16) : IntKind.u16.wrap (V c * 2) = V (c <<< 1) := by
  unfold V; rw [wrap_u16, BitVec.toNat_shiftLeft, Nat.shiftLeft_eq]; omega

theorem poly_V : (4129 : Int) = V 0x1021#16 := rfl

theorem bits_run (s : ByteArray) (i : Nat) (hi : i < s.size) (hs : s.size ≤ 5000) : ∀ (n F : Nat) (r : W16), n ≤ 8 → hourglassref03_More.l1 (F + n + 1) (V r) s (i : Int) ((n : Int) - 1) = hourglassref03_More.l0 F (V (rn (BW s (i : Int)) n r)) s ((i + 1 : Nat) : Int)
  | 0, F, r, _ => by
    rw [hourglassref03_More.l1, if_neg (by omega)]
    have e : wrap64 ((i : Int) + 1) = ((i + 1 : Nat) : Int) := by unfold wrap64; omega
    rw [e]; rfl
  | n + 1, F, r, hn => by
    have e0 : F + (n + 1) + 1 = (F + n + 1) + 1 := by omega
    have e1 : ((n + 1 : Nat) : Int) - 1 = (n : Int) := by omega
    have e2 : wrap64 ((n : Int) - 1) = (n : Int) - 1 := by unfold wrap64; omega
    have e3 : 0 ≤ IntKind.u64.wrap (n : Int) := by
      rw [show IntKind.u64.wrap (n : Int) = (n : Int) % 18446744073709551616 by simp [IntKind.wrap, IntKind.bits, IntKind.signed]]; omega
    rw [e0, e1, hourglassref03_More.l1, if_pos (by omega), if_pos (by omega), if_pos (by omega), if_pos e3, high_V, bit_V s _ n (by omega), e2, dbl_V, poly_V, bits_xor_V, rn]
    have ih := bits_run s i hi hs n F (rb r ((BW s (i : Int)).getLsbD n)) (by omega)
    rw [← ih]
    unfold rb
    cases r.msb <;> cases (BW s (i : Int)).getLsbD n <;> simp

theorem ref_run (c0 : W16) (s : ByteArray) (hs : s.size ≤ 5000) : ∀ (m i F : Nat), i + m = s.size → hourglassref03_More.l0 (F + 10 * m + 1) (V (mI c0 s i)) s (i : Int) = some (V (mI c0 s s.size))
  | 0, i, F, h => by
    have : i = s.size := by omega
    subst this
    rw [hourglassref03_More.l0, if_neg (by omega)]
  | m + 1, i, F, h => by
    rw [show F + 10 * (m + 1) + 1 = (F + 10 * m + 1 + 8 + 1) + 1 by omega, hourglassref03_More.l0, if_pos (by omega)]
    have h1 := bits_run s i (by omega) hs 8 (F + 10 * m + 1) (mI c0 s i) (by omega)
    rw [show ((8 : Nat) : Int) - 1 = 7 by omega] at h1
    rw [h1, rn_st]
    exact ref_run c0 s hs m (i + 1) F (by omega)

theorem ref_more (c0 : W16) (s : ByteArray) (hs : s.size ≤ 5000) (F : Nat) : hourglassref03_More.f (F + 10 * s.size + 1) (V c0) s = some (moreZ (V c0) s s.size) := by
  rw [more_I]
  exact ref_run c0 s hs s.size 0 F (by omega)

theorem ref_sum (s : ByteArray) (hs : s.size ≤ 5000) (F : Nat) : hourglassref03_Sum.f (F + 10 * s.size + 1) s = some (sumZ s) := by
  unfold hourglassref03_Sum.f
  have := ref_more 0xFFFF#16 s hs F
  rw [show V 0xFFFF#16 = (65535 : Int) from rfl] at this
  rw [this]; rfl

theorem ref_seal (s : ByteArray) (hs : s.size ≤ 5000) (F : Nat) : hourglassref03_Seal.f (F + 10 * s.size + 1) s = some (sealZ s) := by
  have h0 := sum_lo s
  have h1 := sum_hi s
  unfold hourglassref03_Seal.f
  rw [ref_sum s hs F]
  simp only [Option.bind_some]
  have e1 : (IntKind.u16.wrap (Int.tdiv (sumZ s) 256)) % 256 = sumZ s / 256 := by
    rw [wrap_u16, Int.tdiv_eq_ediv_of_nonneg h0]; omega
  have e2 : (Int.tmod (sumZ s) 256) % 256 = sumZ s % 256 := by
    rw [Int.tmod_eq_emod_of_nonneg h0]; omega
  rw [e1, e2, if_pos (by rw [strOfNums_size]; simp; omega)]
  rfl

theorem two_zero {x y : W16} (hx : x.toNat < 256) (hy : y.toNat < 256) (h : st (st 0#16 x) y = 0#16) : x = 0#16 ∧ y = 0#16 := by
  have ex : x = BN (x.toNat : Int) := by unfold BN; simp
  have ey : y = BN (y.toNat : Int) := by unfold BN; simp
  have hx0 : x.toNat = 0 := by
    rcases Nat.eq_zero_or_pos x.toNat with h1 | h1
    · exact h1
    · exfalso
      rw [ex, ey] at h
      exact two_ne ⟨by omega, by omega⟩ ⟨by omega, by omega⟩ h
  have hx1 : x = 0#16 := BitVec.eq_of_toNat_eq (by simpa using hx0)
  subst hx1
  refine ⟨rfl, ?_⟩
  have z : st 0#16 0#16 = 0#16 := by decide
  rw [z] at h
  rcases Nat.eq_zero_or_pos y.toNat with h1 | h1
  · exact BitVec.eq_of_toNat_eq (by simpa using h1)
  · exfalso
    rw [ey] at h
    exact one_ne ⟨by omega, by omega⟩ h

theorem xor_small {x y : W16} (hx : x.toNat < 256) (hy : y.toNat < 256) : (x ^^^ y).toNat < 256 := by
  rw [BitVec.toNat_xor]
  exact Nat.xor_lt_two_pow (n := 8) hx hy

theorem bw_small (b : UInt8) : (bw b).toNat < 256 := by
  have := b.toNat_lt
  unfold bw; rw [BitVec.toNat_ofNat]; omega

theorem ends_are (c : W16) (h l : UInt8) (hz : st (st c (bw h)) (bw l) = 0#16) : h = UInt8.ofNat (V c / 256).toNat ∧ l = UInt8.ofNat (V c % 256).toNat := by
  have e := st_end c
  rw [← bw_hi, ← bw_lo] at e
  have hx : st (st (c ^^^ c) (bw h ^^^ bw (UInt8.ofNat (V c / 256).toNat))) (bw l ^^^ bw (UInt8.ofNat (V c % 256).toNat)) = 0#16 := by
    rw [st_xor, st_xor, hz, e]; rfl
  rw [BitVec.xor_self] at hx
  obtain ⟨h1, h2⟩ := two_zero (xor_small (bw_small _) (bw_small _)) (xor_small (bw_small _) (bw_small _)) hx
  have inj : ∀ a b : UInt8, bw a ^^^ bw b = 0#16 → a = b := fun a b hh => by
    have h3 : bw a = bw b := by
      have := congrArg (fun z : W16 => z ^^^ bw b) hh
      simpa [BitVec.xor_assoc] using this
    have h4 := congrArg BitVec.toNat h3
    unfold bw at h4
    have := a.toNat_lt
    have := b.toNat_lt
    rw [BitVec.toNat_ofNat, BitVec.toNat_ofNat] at h4
    exact UInt8.toNat_inj.1 (by omega)
  exact ⟨inj _ _ h1, inj _ _ h2⟩

theorem seal_iff (s : ByteArray) (h2 : 2 ≤ s.size) (h0 : sumZ s = 0) : sealZ (s.extract 0 (s.size - 2)) = s := by
  have hl : s.data.toList.length = s.size := rfl
  have e1 : (s.extract 0 (s.size - 2)).data.toList = s.data.toList.take (s.size - 2) := by simp
  have e2 : s.data.toList = s.data.toList.take (s.size - 2) ++ s.data.toList.drop (s.size - 2) := (List.take_append_drop _ _).symm
  obtain ⟨h, l, e3⟩ : ∃ h l, s.data.toList.drop (s.size - 2) = [h, l] := by
    have : (s.data.toList.drop (s.size - 2)).length = 2 := by rw [List.length_drop, hl]; omega
    match hm : s.data.toList.drop (s.size - 2), this with
    | [h, l], _ => exact ⟨h, l, rfl⟩
  have hz : st (st (mr 0xFFFF#16 (s.data.toList.take (s.size - 2))) (bw h)) (bw l) = 0#16 := by
    have := sum_V s
    rw [h0, e2, e3, mr_append] at this
    exact (V_inj (show V 0#16 = _ from this)).symm
  obtain ⟨rfl, rfl⟩ := ends_are _ h l hz
  apply ByteArray.ext
  apply Array.toList_inj.1
  unfold sealZ
  rw [data_append, e1]
  conv => rhs; rw [e2, e3]
  congr 1
  show [UInt8.ofNat (sumZ (s.extract 0 (s.size - 2)) / 256).toNat, UInt8.ofNat (sumZ (s.extract 0 (s.size - 2)) % 256).toNat] = _
  rw [sum_V, e1]

/-- What Open answers. -/
def openZ (s : ByteArray) : ByteArray × Bool := if s.size < 2 ∨ sumZ s ≠ 0 then (⟨#[]⟩, false) else (s.extract 0 (s.size - 2), true)

theorem open_p (s : ByteArray) (w : World) (hs : s.size ≤ 2000) : Calls Try.prog 10 #[.string s] w fun e w' => e = .returned (.tuple #[.string (openZ s).1, .bool (openZ s).2]) ∧ Below w.heap.size w w' := by
  unfold openZ
  by_cases h : s.size < 2
  · rw [if_pos (.inl h)]; exact open_no s w (by omega) (.inl h)
  · by_cases h2 : sumZ s = 0
    · rw [if_neg (by rintro (h3 | h3); exact h h3; exact h3 h2)]; exact open_ok s w (by omega) (by omega) h2
    · rw [if_pos (.inr h2)]; exact open_no s w (by omega) (.inr ⟨h, h2⟩)

theorem ref_open (s : ByteArray) (hs : s.size ≤ 2000) : ∃ k, hourglassref03_Open.f k s = some (openZ s) := by
  refine ⟨0 + 10 * (s.extract 0 (s.size - 2)).size + 1, ?_⟩
  unfold hourglassref03_Open.f openZ
  by_cases h : s.size < 2
  · rw [if_pos (by omega), if_pos (.inl h)]
  · have e1 : wrap64 ((s.size : Int) - 2) = (s.size : Int) - 2 := by unfold wrap64; omega
    have e2 : ((s.size : Int) - 2).toNat = s.size - 2 := by omega
    rw [if_neg (by omega), e1, if_pos (by omega), if_pos (by omega), e2, ref_seal _ (by rw [ByteArray.size_extract]; omega) 0]
    simp only [Option.bind_some]
    by_cases h2 : sumZ s = 0
    · rw [if_pos (by rw [seal_iff s (by omega) h2]), if_neg (by rintro (h3 | h3); exact h h3; exact h3 h2)]
    · rw [if_neg (fun h3 => h2 (by
        have h4 : sealZ (s.extract 0 (s.size - 2)) = s := by
          have h5 : (sealZ (s.extract 0 (s.size - 2))).data.toList = s.data.toList := by
            rw [← ByteArray.toList_eq, ← ByteArray.toList_eq]; exact h3
          exact ByteArray.ext (Array.toList_inj.1 h5)
        rw [← h4]; exact seal_sum _)), if_pos (.inr h2)]

end Go.Proofs.Ytldmhoobpobinaa.Crc

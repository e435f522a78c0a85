/- What spoiling does to a text: one byte is another one. -/
import Derived.Test.YthgkcjcmliaanaaBgO
set_option linter.unusedVariables false
set_option linter.unusedSimpArgs false
namespace Go.Proofs.Ythgkcjcmliaanaa.Bg
open Go.RowKit Go.Proofs.Ythgkcjcmliaanaa.Base Go.Proofs.Ythgkcjcmliaanaa.Rws Go.Proofs.YthgkcjcmliaanaaW.PrintWords Go.Proofs.YthgkcjcmliaanaaW.PrintMore

theorem xor_u8 (a x : Nat) (ha : a < 256) (hx : x < 256) : bits .xor .u8 (a : Int) (x : Int) = ((a ^^^ x : Nat) : Int) := by
  have ha' : a < 2 ^ 8 := by omega
  have hx' : x < 2 ^ 8 := by omega
  have hab : a ^^^ x < 2 ^ 8 := Nat.xor_lt_two_pow ha' hx'
  show IntKind.u8.wrap (((BitVec.ofInt 8 (a : Int)) ^^^ (BitVec.ofInt 8 (x : Int))).toNat : Int) = _
  rw [BitVec.ofInt_natCast, BitVec.ofInt_natCast, IntKind.wrap_u8]
  simp only [BitVec.toNat_xor, BitVec.toNat_ofNat]
  rw [Nat.mod_eq_of_lt ha', Nat.mod_eq_of_lt hx']
  omega

theorem xor_ne (a x : Int) (ha : 0 ≤ a ∧ a ≤ 255) (hx : 1 ≤ x ∧ x ≤ 255) : bits .xor .u8 a x ≠ a ∧ 0 ≤ bits .xor .u8 a x ∧ bits .xor .u8 a x ≤ 255 := by
  obtain ⟨a, rfl⟩ := Int.eq_ofNat_of_zero_le ha.1
  obtain ⟨x, rfl⟩ := Int.eq_ofNat_of_zero_le (by omega : 0 ≤ x)
  have hab : a ^^^ x < 2 ^ 8 := Nat.xor_lt_two_pow (by omega) (by omega)
  rw [xor_u8 a x (by omega) (by omega)]
  refine ⟨fun h => ?_, by omega, by omega⟩
  have h1 : a ^^^ x = a := by omega
  have h2 : a ^^^ (a ^^^ x) = a ^^^ a := by rw [h1]
  rw [← Nat.xor_assoc, Nat.xor_self, Nat.zero_xor] at h2
  omega

theorem bt_nums (s : ByteArray) (i : Nat) (hi : i < s.size) : bt s (i : Int) = (nums s).getD i 0 := by
  have hi' : i < s.data.size := hi
  unfold bt nums
  rw [dif_pos (by simpa using hi), List.getD_eq_getElem?_getD, List.getElem?_map, Array.getElem?_toList, Array.getElem?_eq_getElem hi']
  rfl

theorem nums_range (s : ByteArray) : ∀ y ∈ nums s, 0 ≤ y ∧ y ≤ 255 := by
  intro y hy
  unfold nums at hy
  obtain ⟨b, _, rfl⟩ := List.mem_map.1 hy
  have := b.toNat_lt
  omega

theorem nums_str (xs : List Int) (h : ∀ y ∈ xs, 0 ≤ y ∧ y ≤ 255) : nums (strOfNums xs) = xs := by
  unfold nums
  rw [strOfNums_data, List.map_map]
  conv => rhs; rw [← List.map_id xs]
  refine List.map_congr_left fun y hy => ?_
  have := h y hy
  simp only [Function.comp, id_eq]
  rw [UInt8.toNat_ofNat']
  omega

theorem chg_size (s : ByteArray) (a : Nat) (x : Int) : (chgB s a x).size = s.size := by unfold chgB; rw [strOfNums_size, chgL_len]

theorem chg_bt (s : ByteArray) (a : Nat) (x : Int) (ha : a < s.size) (hx : 1 ≤ x ∧ x ≤ 255) (i : Nat) (hi : i < s.size) : bt (chgB s a x) (i : Int) = if i = a then bits .xor .u8 (bt s (a : Int)) x else bt s (i : Int) := by
  rw [bt_nums _ i (by rw [chg_size]; exact hi)]
  have hb := bt_range s (a : Int)
  rw [bt_nums s a ha] at hb
  have hr : ∀ y ∈ chgL s a x, 0 ≤ y ∧ y ≤ 255 := by
    intro y hy
    unfold chgL at hy
    rcases List.mem_or_eq_of_mem_set hy with h | rfl
    · exact nums_range s y h
    · exact (xor_ne _ x hb hx).2
  unfold chgB
  rw [nums_str _ hr]
  unfold chgL
  rw [List.getD_eq_getElem?_getD, List.getElem?_set]
  by_cases hia : a = i
  · subst hia
    rw [if_pos rfl, if_pos (by rw [nums_len]; exact ha), if_pos rfl, bt_nums s a ha]
    rfl
  · rw [if_neg hia, if_neg (fun e => hia e.symm), bt_nums s i hi, List.getD_eq_getElem?_getD]

/-- How many of the first bytes are apart. -/
def apN (S t : ByteArray) : Nat → Int
  | 0 => 0
  | n + 1 => apN S t n + (if bt t (n : Int) = bt S (n : Int) then 0 else 1)

/-- A flight of this text: unspoilt, or one byte is another one. -/
def Hu (S : ByteArray) (x : Fl) : Prop :=
  x.s.size = S.size ∧ (x.h = false ∧ (∀ i : Nat, i < S.size → bt x.s (i : Int) = bt S (i : Int)) ∨ x.h = true ∧ ∃ a : Nat, a < S.size ∧ bt x.s (a : Int) ≠ bt S (a : Int) ∧ ∀ i : Nat, i < S.size → i ≠ a → bt x.s (i : Int) = bt S (i : Int))

theorem apN_bd (S t : ByteArray) (n : Nat) : 0 ≤ apN S t n ∧ apN S t n ≤ n := by
  induction n with
  | zero => simp [apN]
  | succ n ih => unfold apN; split <;> omega

theorem apN_same {S t : ByteArray} {n : Nat} (h : ∀ i : Nat, i < n → bt t (i : Int) = bt S (i : Int)) : apN S t n = 0 := by
  induction n with
  | zero => rfl
  | succ n ih => unfold apN; rw [ih (fun i hi => h i (by omega)), if_pos (h n (by omega))]; rfl

theorem apN_one {S t : ByteArray} {n a : Nat} (ha : bt t (a : Int) ≠ bt S (a : Int)) (h : ∀ i : Nat, i < n → i ≠ a → bt t (i : Int) = bt S (i : Int)) : apN S t n = if a < n then 1 else 0 := by
  induction n with
  | zero => simp [apN]
  | succ n ih =>
    unfold apN
    rw [ih (fun i hi hne => h i (by omega) hne)]
    by_cases hn : n = a
    · subst hn
      rw [if_neg ha, if_neg (by omega), if_pos (by omega)]
      rfl
    · rw [if_pos (h n (by omega) hn)]
      by_cases hl : a < n
      · rw [if_pos hl, if_pos (by omega)]; rfl
      · rw [if_neg hl, if_neg (by omega)]; rfl

theorem Hu.ap {S : ByteArray} {x : Fl} (h : Hu S x) : apN S x.s S.size = if x.h then 1 else 0 := by
  obtain ⟨_, ⟨h1, h2⟩ | ⟨h1, a, ha, hne, h2⟩⟩ := h
  · rw [h1, apN_same h2]; rfl
  · rw [h1, apN_one hne h2, if_pos ha]; rfl

theorem Hu.new (S : ByteArray) : Hu S ⟨0, 0, S, false⟩ := ⟨rfl, .inl ⟨rfl, fun _ _ => rfl⟩⟩

theorem Hu.hurt {S : ByteArray} {x : Fl} (h : Hu S x) (hh : x.h = false) (a : Nat) (b : Int) (ha : a < x.s.size) (hb : 1 ≤ b ∧ b ≤ 255) : Hu S ⟨x.f, x.t, chgB x.s a b, true⟩ := by
  obtain ⟨h0, ⟨_, h2⟩ | ⟨h1, _⟩⟩ := h
  · refine ⟨by simp only; rw [chg_size, h0], .inr ⟨rfl, a, by omega, ?_, fun i hi hia => ?_⟩⟩
    · simp only
      rw [chg_bt x.s a b ha hb a ha, if_pos rfl, ← h2 a (by omega)]
      exact (xor_ne _ b (bt_range _ _) hb).1
    · simp only
      rw [chg_bt x.s a b ha hb i (by omega), if_neg hia]
      exact h2 i hi
  · rw [hh] at h1
    cases h1

/-- All flights are of this text. -/
structure All (S : ByteArray) (σ : Bs) (i : Int) : Prop where
  fl : ∀ x ∈ σ.L, Hu S x
  len : (σ.L.length : Int) ≤ i + 1
  lost : σ.lost = 0

theorem All.ok {S : ByteArray} {σ : Bs} {i : Int} (h : All S σ i) (hS : S.size ≤ 200) (hi : i ≤ 60) : Ok σ :=
  ⟨by have := h.len; omega, by rw [h.lost]; omega, by rw [h.lost]; omega, fun x hx => by have := (h.fl x hx).1; omega⟩

theorem All.more {S : ByteArray} {σ : Bs} {i : Int} (h : All S σ i) : All S σ (i + 1) := ⟨h.fl, by have := h.len; omega, h.lost⟩

theorem All.twice {S : ByteArray} {σ : Bs} {i : Int} (h : All S σ i) (hi : i ≤ 60) (k : Int) : All S (twiceM σ k).2 (i + 1) := by
  have hl := h.len
  unfold twiceM sendM
  rcases lookF_cases σ.L k with ⟨x, hk, hx, he⟩ | he
  · rw [he, if_pos rfl, if_neg (by omega)]
    refine ⟨fun y hy => ?_, by simp; omega, h.lost⟩
    rcases List.mem_append.1 hy with h1 | h1
    · exact h.fl y h1
    · simp at h1
      subst h1
      exact h.fl _ (List.mem_of_getElem? hx)
  · rw [he, if_neg (by decide)]
    exact h.more

theorem All.take {S : ByteArray} {σ : Bs} {i : Int} (h : All S σ i) (k : Int) : All S (takeM σ k) (i + 1) := by
  have hl := h.len
  unfold takeM
  split
  · refine ⟨fun y hy => ?_, by simp; omega, h.lost⟩
    rcases List.mem_append.1 hy with h1 | h1
    · exact h.fl y (List.mem_of_mem_take h1)
    · exact h.fl y (List.mem_of_mem_drop h1)
  · exact h.more

theorem All.hurt {S : ByteArray} {σ : Bs} {i : Int} (h : All S σ i) (k a b : Int) : All S (hurtM σ k a b).2 (i + 1) := by
  have hl := h.len
  unfold hurtM
  rcases lookF_cases σ.L k with ⟨x, hk, hx, he⟩ | he
  · rw [he, if_pos rfl]
    split
    · rename_i hE
      simp only at hE
      refine ⟨fun y hy => ?_, by simp; omega, h.lost⟩
      rcases List.mem_or_eq_of_mem_set hy with h1 | rfl
      · exact h.fl y h1
      · unfold hurtE at hE
        cases hxh : x.h with
        | true => rw [hxh] at hE; simp at hE
        | false =>
          rw [hxh] at hE
          simp only [Bool.false_eq_true, if_false] at hE
          split at hE
          · cases hE
          · exact (h.fl x (List.mem_of_getElem? hx)).hurt hxh a.toNat b (by omega) (by omega)
    · exact h.more
  · rw [he, if_neg (by decide)]
    exact h.more

end Go.Proofs.Ythgkcjcmliaanaa.Bg

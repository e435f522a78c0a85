/- Ring: slices.Values, Clone, Compact of rows; a number as one byte. -/
import Derived.Test.YtbjepnneklnenaaRgQ
import Derived.Test.YtbjepnneklnenaaCrcT
set_option linter.unusedVariables false
set_option linter.unusedSimpArgs false
set_option maxRecDepth 100000
namespace Go.Proofs.Ytbjepnneklnenaa.Rg
open Go.RowKit Go.Maps Go.Shelf Go.Lib Go.Sort Go.Proofs.Ytbjepnneklnenaa.Base Go.Proofs.Ytbjepnneklnenaa.Rws Go.Proofs.Ytbjepnneklnenaa.Crc Go.Proofs.YtbjepnneklnenaaW.PrintWords Go.Proofs.YtbjepnneklnenaaW.PrintMore
open Go.Proofs.Ytbjepnneklnenaa.PR (bytes_Num.f bytes_Num.j0 bytes_Num.l0 bytes_Num.calls hourglassref04_Num.f hourglassref04_Num.j0 hourglassref04_Num.l0 hourglassref42_At.f)
attribute [local go_sem] max2_mx min2_mn max_two min_two max_three min_three max_four min_four

theorem values_p (A : Option Addr) (n c : Nat) (w : World) : Calls Try.prog 18 #[.slice A n c] w fun e w' => e = .returned (.func (.func 32) #[] #[.pointer (some ⟨w.heap.size, 0, none⟩)]) ∧ w.alloc (.cells #[.slice A n c] 22) = w' := by
  go_enter Try.func18, Try.ntmps18
  go_wp2
  go_ret
  exact ⟨rfl, rfl⟩

theorem clone_p {w : World} {P : Nat → Prop} {v : Value} {L : List Int} (h : Ks w P v L) (hl : L.length ≤ 1000) :
    Calls Try.prog 20 #[v] w fun e w' => ∃ v', e = .returned v' ∧ Ks w' (fun k => w.heap.size ≤ k) v' L ∧ Only (fun _ => False) w w' := by
  rcases h with ⟨rfl, h0, hx⟩ | ⟨q, o, c, cells, rfl, hq, r⟩
  · have hn : L = [] := List.length_eq_zero_iff.1 h0
    subst hn
    refine (Try.slices_Clone_int_nil 0 0 w).mono ?_
    rintro e w' ⟨rfl, rfl⟩
    exact ⟨_, rfl, Row.nil _ _ _ _, Only.refl _ _⟩
  · have hK : Ks w P (.slice (some ⟨q, o, none⟩) L.length c) L := .inr ⟨q, o, c, cells, rfl, hq, r⟩
    refine (Try.slices_Clone_int q o L.length c L w (Nat.le_refl _) (by omega) (fun j hj => ?_)).mono ?_
    · refine Row.cell hK j ?_
      rw [List.getElem?_map, List.getElem?_eq_getElem hj]
      simp [List.getD, hj]
    · rintro e w' ⟨v', rfl, hr, _, hb⟩
      rw [List.take_length] at hr
      exact ⟨v', rfl, Ks.of_own hr, Only.of_below hb⟩

theorem compact_p {w : World} {P : Nat → Prop} {v : Value} {L : List Int} (h : Ks w P v L) (hl : L.length ≤ 1000) :
    Calls Try.prog 19 #[v] w fun e w' => (∃ A c, e = .returned (.slice A (Lib.compact L).length c)) ∧ Only (fun k => v.ownBlock = some k) w w' := by
  rcases h with ⟨rfl, h0, hx⟩ | ⟨q, o, c, cells, rfl, hq, r⟩
  · have hn : L = [] := List.length_eq_zero_iff.1 h0
    subst hn
    refine (Try.slices_Compact_int_empty none 0 w).mono ?_
    rintro e w' ⟨rfl, rfl⟩
    exact ⟨⟨_, _, rfl⟩, Only.refl _ _⟩
  · have hK : Ks w P (.slice (some ⟨q, o, none⟩) L.length c) L := .inr ⟨q, o, c, cells, rfl, hq, r⟩
    refine (Try.slices_Compact_int q o c L w hK.holds (by omega) r.2.1.1).mono ?_
    rintro e w' ⟨rfl, m, hw⟩
    refine ⟨⟨_, _, rfl⟩, ?_⟩
    have hlen : (Lib.compact L ++ List.replicate (L.length - (Lib.compact L).length) 0).length = L.length := by
      have := compact_length_le L
      simp; omega
    have := Ks.sorted (m := m) (os := #[]) hK hlen (w' := w') (hw.trans (by unfold grow; rw [Array.append_empty]))
    exact this.2.mono (fun k hk => by rw [hk]; rfl)

/-- A number as one byte. -/
def b1 (m : Int) : ByteArray := strOfNums [m]
theorem b1_size (m : Int) : (b1 m).size = 1 := rfl

theorem num_f (m : Int) (h0 : 0 ≤ m) (h1 : m ≤ 255) (k : Nat) : bytes_Num.f (k + 3) m 1 = some (b1 m) := by
  have e1 : wrap64 8 = 8 := by unfold wrap64; omega
  have e2 : shl .i64 1 8 = 256 := by decide
  have e3 : wrap64 0 = 0 := by unfold wrap64; omega
  have e4 : wrap64 (-1) = -1 := by unfold wrap64; omega
  have e5 : ¬ 256 ≤ m := by omega
  have e6 : m % 256 = m := by omega
  have e7 : ¬ m < 0 := by omega
  simp [bytes_Num.f, bytes_Num.j0, bytes_Num.l0, e1, e2, e3, e4, e5, e6, b1, e7]

theorem numref_f (m : Int) (h0 : 0 ≤ m) (h1 : m ≤ 255) (k : Nat) : hourglassref04_Num.f (k + 3) m 1 = some (b1 m) := by
  have e3 : wrap64 1 = 1 := by unfold wrap64; omega
  have e6 : (Int.tmod m 256) % 256 = m := by rw [Int.tmod_eq_emod_of_nonneg h0]; omega
  have e7 : Int.tdiv m 256 = 0 := by rw [Int.tdiv_eq_ediv_of_nonneg h0]; omega
  have e8 : wrap64 0 = 0 := by unfold wrap64; omega
  have e9 : ¬ m < 0 := by omega
  have e10 : (strOfNums [m]).size + ({ data := #[] } : ByteArray).size ≤ 9223372036854775807 := by show 1 + 0 ≤ _; omega
  have e11 : strOfNums [m] ++ ({ data := #[] } : ByteArray) = strOfNums [m] := ByteArray.append_empty
  simp [hourglassref04_Num.f, hourglassref04_Num.j0, hourglassref04_Num.l0, e3, e6, e7, e8, b1, e9, e10, e11]

/-- Where a member's point is. -/
def pos (m n : Int) : Int := sumZ (b1 m ++ b1 n)
theorem pos_lo (m n : Int) : 0 ≤ pos m n := sum_lo _
theorem pos_hi (m n : Int) : pos m n ≤ 65535 := sum_hi _

theorem at_f (m n : Int) (h0 : 0 ≤ m) (h1 : m ≤ 255) (h2 : 0 ≤ n) (h3 : n ≤ 255) (k : Nat) : hourglassref42_At.f (k + 21) m n = some (pos m n) := by
  have hs : (b1 m ++ b1 n).size = 2 := by rw [ByteArray.size_append, b1_size, b1_size]
  have := ref_sum (b1 m ++ b1 n) (by omega) k
  rw [hs] at this
  have hw : wrap64 (sumZ (b1 m ++ b1 n)) = sumZ (b1 m ++ b1 n) := by
    have h4 := sum_lo (b1 m ++ b1 n)
    have h5 := sum_hi (b1 m ++ b1 n)
    unfold wrap64; omega
  unfold hourglassref42_At.f pos
  rw [numref_f m h0 h1 (k + 18), numref_f n h2 h3 (k + 18)]
  simp [this, hw, b1_size]

theorem num_p (m : Int) (h0 : 0 ≤ m) (h1 : m ≤ 255) (w : World) : Calls Try.prog 22 #[.int .i64 m, .int .i64 1] w fun e w' => e = .returned (.string (b1 m)) ∧ Only (fun _ => False) w w' :=
  (bytes_Num.calls 3 m 1 (b1 m) w (num_f m h0 h1 0)).mono (fun e w' h => ⟨h.1, Only.of_below h.2⟩)

theorem crc_p (s : ByteArray) (w : World) (hs : s.size ≤ 100000) : Calls Try.prog 21 #[.string s] w fun e w' => e = .returned (.int .u16 (sumZ s)) ∧ Only (fun _ => False) w w' :=
  (sum_p s w hs).mono (fun e w' h => ⟨h.1, Only.of_below h.2⟩)
end Go.Proofs.Ytbjepnneklnenaa.Rg

/- The contracts of crc.More and crc.Sum. -/
import Derived.Test.YtbjepnneklnenaaCrc
import Derived.Deep.WholeRow
set_option linter.unusedVariables false
set_option linter.unusedSimpArgs false
namespace Go.Proofs.Ytbjepnneklnenaa.Crc
open Go.RowKit Go.Proofs.Ytbjepnneklnenaa.Base Go.Proofs.YtbjepnneklnenaaW.PrintWords Go.Proofs.YtbjepnneklnenaaW.PrintMore

/-- The table in memory. -/
def table : Array Value := cel16 (celN 16)

theorem row_q (w : World) : Calls Try.prog 43 #[] w fun e w' => e = .returned (.agg table) ∧ Below w.heap.size w w' := row_p w

/-- A nibble's step, and a byte's. -/
def nibZ (c : Int) : Int := bits .xor .u16 (IntKind.u16.wrap (c * 16)) (tab (c / 4096).toNat)
def mixZ (c b : Int) : Int := bits .xor .u16 c (IntKind.u16.wrap (IntKind.u16.wrap b * 256))
def stepZ (c b : Int) : Int := nibZ (nibZ (mixZ c b))

/-- Behind the first i bytes. -/
def moreZ (c : Int) (s : ByteArray) : Nat → Int
  | 0 => c
  | i + 1 => stepZ (moreZ c s i) (bt s i)

theorem tab_at (k : Nat) (h : k < 16) : table[k]? = some (.int .u16 (tab k)) := by
  unfold table cel16 celN
  rw [List.getElem?_toArray, List.getElem?_map, List.getElem?_map, List.getElem?_range h]
  simp [h]

set_option maxHeartbeats 2000000 in
theorem more_p (c : Int) (s : ByteArray) (w : World) (hs : s.size ≤ 100000) : Calls Try.prog 33 #[.int .u16 c, .string s] w fun e w' => e = .returned (.int .u16 (moreZ c s s.size)) ∧ Below w.heap.size w w' := by
  have hst := fun w' : World => run_storeCells_new (P := Try.prog) w' 74 #[.int .u16 0, .int .u16 0, .int .u16 0, .int .u16 0, .int .u16 0, .int .u16 0, .int .u16 0, .int .u16 0, .int .u16 0, .int .u16 0, .int .u16 0, .int .u16 0, .int .u16 0, .int .u16 0, .int .u16 0, .int .u16 0] table (by kernel_rfl) (by kernel_rfl) (by kernel_rfl)
  have htz : table.size = 16 := by kernel_rfl
  go_enter Try.func33, Try.ntmps33
  go_wp2_with (go_at_call 43; refine (row_q _).mono ?_; rintro e w1 ⟨rfl, hb1⟩; have HB1 := Lib.hid hb1; clear hb1)
  have HQ : Hid ((w1.alloc (.cells table 74)).heap[w1.heap.size]? = some (.cells table 74 (0, 0))) := Lib.hid (heap_alloc_new w1 _)
  have HB2 : Hid (Below w.heap.size w (w1.alloc (.cells table 74))) := Lib.hid (below_alloc HB1.out _)
  obtain ⟨q, hq⟩ : ∃ q, q = w1.heap.size := ⟨_, rfl⟩
  rw [← hq] at HQ ⊢
  clear hst htz hq HB1
  generalize w1.alloc (.cells table 74) = w2 at *
  go_loopw [0, 10] (fun vc vi wq => ∃ i : Nat, vc = .int .u16 (moreZ c s i) ∧ vi = .int .i64 (i : Int) ∧ i ≤ s.size ∧ w2 = wq) (fun _ vi _ => s.size - (intOf vi).toNat)
  case atStart => exact ⟨0, rfl, rfl, by omega, rfl⟩
  case round =>
    obtain ⟨i, rfl, rfl, hi, hwr⟩ := hrel
    subst hwr
    have hgo : i < s.size ∨ i = s.size := by omega
    rcases hgo with hlt | rfl
    · have hlt' : (i : Int) < s.size := by omega
      have HM : Hid (moreZ c s (i + 1) = stepZ (moreZ c s i) (bt s i)) := Lib.hid rfl
      generalize moreZ c s i = x at *
      have HBT : Hid (bt s (i : Int) = ((s[i]'hlt).toNat : Int)) := Lib.hid (by unfold bt; rw [Int.toNat_natCast, dif_pos hlt])
      obtain ⟨y, hy⟩ : ∃ y, bits .xor .u16 x (IntKind.u16.wrap (IntKind.u16.wrap ((s[i]'hlt).toNat : Int) * 256)) = y := ⟨_, rfl⟩
      obtain ⟨z, hz⟩ : ∃ z, bits .xor .u16 (IntKind.u16.wrap (y * 16)) (tab (y / 4096).toNat) = z := ⟨_, rfl⟩
      have hy0 : 0 ≤ y := by rw [← hy]; exact bits_lo_u16 _ _ _
      have hy1 : y ≤ 65535 := by rw [← hy]; exact bits_hi_u16 _ _ _
      have hz0 : 0 ≤ z := by rw [← hz]; exact bits_lo_u16 _ _ _
      have hz1 : z ≤ 65535 := by rw [← hz]; exact bits_hi_u16 _ _ _
      have hy2 : 0 ≤ y / 4096 := by omega
      have hy3 : y / 4096 < 16 := by omega
      have hz2 : 0 ≤ z / 4096 := by omega
      have hz3 : z / 4096 < 16 := by omega
      have hc0 : w2.cell? ⟨q, (y / 4096).toNat, none⟩ = some (.int .u16 (tab (y / 4096).toNat)) := cell_at HQ.out _ (tab_at _ (by omega))
      have hc1 : w2.cell? ⟨q, (z / 4096).toNat, none⟩ = some (.int .u16 (tab (z / 4096).toNat)) := cell_at HQ.out _ (tab_at _ (by omega))
      have HY := Lib.hid hy
      have HZ := Lib.hid hz
      go_wp2
      go_roundw
      case rel => exact ⟨i + 1, by rw [HM.out, HBT.out]; unfold stepZ nibZ mixZ; rw [HY.out, HZ.out], by go_num, by omega, by trivial⟩
      case measure => simp [intOf]; omega
    · go_wp2
      go_ret
      exact ⟨rfl, HB2.out⟩

theorem sum_p (s : ByteArray) (w : World) (hs : s.size ≤ 100000) : Calls Try.prog 21 #[.string s] w fun e w' => e = .returned (.int .u16 (moreZ 65535 s s.size)) ∧ Below w.heap.size w w' := by
  go_enter Try.func21, Try.ntmps21
  go_wp2_with (go_at_call 33; refine (more_p _ _ _ hs).mono ?_; rintro e w1 ⟨rfl, hb1⟩; have HB1 := Lib.hid hb1; clear hb1)
  go_ret
  exact ⟨rfl, HB1.out⟩

end Go.Proofs.Ytbjepnneklnenaa.Crc

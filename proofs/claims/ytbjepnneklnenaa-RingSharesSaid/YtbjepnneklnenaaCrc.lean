/- The contracts of crc's functions: the table, More, Sum, Seal, Open. -/
import Derived.Test.YtbjepnneklnenaaProg
import Derived.Test.YtbjepnneklnenaaBase
import Derived.WalkSpells
set_option linter.unusedVariables false
set_option linter.unusedSimpArgs false
namespace Go.Proofs.Ytbjepnneklnenaa.Crc
open Go.RowKit Go.Proofs.Ytbjepnneklnenaa.Base Go.Proofs.YtbjepnneklnenaaW.PrintWords Go.Proofs.YtbjepnneklnenaaW.PrintMore

/-- The table's entry while it is made: behind k of its four bits. -/
def itZ (i : Nat) : Nat → Int
  | 0 => IntKind.u16.wrap ((i : Int) * 4096)
  | k + 1 => if bits .and .u16 (itZ i k) 32768 = 0 then IntKind.u16.wrap (itZ i k * 2) else bits .xor .u16 (IntKind.u16.wrap (itZ i k * 2)) 4129

/-- The table's entry. -/
def tab (i : Nat) : Int := itZ i 4

/-- The table, its first i entries made. -/
def celN (i : Nat) : List Int := (List.range 16).map fun j => if j < i then tab j else 0

def cel16 (l : List Int) : Array Value := (l.map (Value.int .u16)).toArray

theorem cel16_set (l : List Int) (i : Nat) (x : Int) : (cel16 l).setIfInBounds i (.int .u16 x) = cel16 (l.set i x) := by
  unfold cel16; rw [List.setIfInBounds_toArray, ← List.map_set]

theorem celN_set : ∀ i, i < 16 → (celN i).set i (tab i) = celN (i + 1) := by decide +kernel

theorem itZ_zero (i : Nat) : itZ i 0 = IntKind.u16.wrap ((i : Int) * 4096) := rfl
theorem itZ_yes {i k : Nat} (h : bits .and .u16 (itZ i k) 32768 = 0) : itZ i (k + 1) = IntKind.u16.wrap (itZ i k * 2) := by rw [itZ, if_pos h]
theorem itZ_no {i k : Nat} (h : ¬ bits .and .u16 (itZ i k) 32768 = 0) : itZ i (k + 1) = bits .xor .u16 (IntKind.u16.wrap (itZ i k * 2)) 4129 := by rw [itZ, if_neg h]

set_option maxHeartbeats 2000000 in
theorem row_p (w : World) : Calls Try.prog 43 #[] w fun e w' => e = .returned (.agg (cel16 (celN 16))) ∧ Below w.heap.size w w' := by
  go_enter Try.func43, Try.ntmps43
  go_wp2
  obtain ⟨r, hr⟩ : ∃ r, r = w.heap.size := ⟨_, rfl⟩
  have h0 : (w.alloc (.cells (cel16 (celN 0)) 74)).heap.size = w.heap.size + 1 := by show (w.heap.push _).size = _; simp
  have hA := heap_alloc_new w (.cells (cel16 (celN 0)) 74)
  have hB := heap_alloc_new (w.alloc (.cells (cel16 (celN 0)) 74)) (.cells (cel16 (celN 0)) 74)
  rw [h0] at hB
  have hA2 := blk_alloc hA (.cells (cel16 (celN 0)) 74)
  have hBel : Below w.heap.size w ((w.alloc (.cells (cel16 (celN 0)) 74)).alloc (.cells (cel16 (celN 0)) 74)) := below_alloc (below_alloc (Below.refl _ _) _) _
  rw [← hr] at hA2 hB ⊢
  have HA : Hid (((w.alloc (.cells (cel16 (celN 0)) 74)).alloc (.cells (cel16 (celN 0)) 74)).heap[r]? = some (.cells (cel16 (celN 0)) 74 (0, 0))) := Lib.hid hA2
  have HB : Hid (((w.alloc (.cells (cel16 (celN 0)) 74)).alloc (.cells (cel16 (celN 0)) 74)).heap[r + 1]? = some (.cells (cel16 (celN 0)) 74 (0, 0))) := Lib.hid hB
  have HBel := Lib.hid hBel
  have HRW := Lib.hid hr
  clear hA hB hA2 hBel h0 hr
  go_loopw [4] (fun vi wr => ∃ i : Nat, vi = .int .i64 (i : Int) ∧ i ≤ 16 ∧ Hid (wr.heap[r + 1]? = some (.cells (cel16 (celN i)) 74 (0, 0))) ∧ Hid (wr.heap[r]? = some (.cells (cel16 (celN 0)) 74 (0, 0))) ∧ Hid (Below w.heap.size w wr)) (fun vi _ => 16 - (intOf vi).toNat)
  case atStart => exact ⟨0, rfl, by omega, HB, HA, HBel⟩
  case round =>
    obtain ⟨i, rfl, hi, HT, HR, HBr⟩ := hrel
    have hgo : i < 16 ∨ i = 16 := by omega
    rcases hgo with hlt | rfl
    · have hlt' : (i : Int) < 16 := by omega
      have h0 : itZ i 0 = IntKind.u16.wrap ((i : Int) * 4096) := rfl
      have HI : Hid (i < 16) := Lib.hid hlt
      have hcw : IntKind.u16.wrap (i : Int) = (i : Int) := by rw [show IntKind.u16.wrap (i : Int) = (i : Int) % 65536 by simp [IntKind.wrap, IntKind.bits, IntKind.signed]]; omega
      have HTA : Hid (itZ i 4 = tab i) := Lib.hid rfl
      have hcz : wr.cell? ⟨r + 1, i, none⟩ = some (.int .u16 0) := cell_at HT.out i (by
        unfold cel16 celN
        rw [List.getElem?_toArray, List.getElem?_map, List.getElem?_map, List.getElem?_range hlt]
        simp)
      have hfz : wr.frozen? ⟨r + 1, i, none⟩ = false := blk_frozen HT.out i
      have HT2 : Hid ((wr.setCell ⟨r + 1, i, none⟩ (.int .u16 (tab i))).heap[r + 1]? = some (.cells (cel16 (celN (i + 1))) 74 (0, 0))) := Lib.hid (by
        have := blk_set HT.out i (.int .u16 (tab i))
        rw [cel16_set, celN_set i hlt] at this
        exact this)
      have HR2 : Hid ((wr.setCell ⟨r + 1, i, none⟩ (.int .u16 (tab i))).heap[r]? = some (.cells (cel16 (celN 0)) 74 (0, 0))) := Lib.hid (((Only.refl (fun k => k = r + 1) wr).setCell (.inl rfl) _).blk HR.out (by omega))
      have HB2 : Hid (Below w.heap.size w (wr.setCell ⟨r + 1, i, none⟩ (.int .u16 (tab i)))) := Lib.hid (((Only.refl (fun k => k = r + 1) wr).setCell (.inl rfl) _).below HBr.out HBr.out.size (fun k hk => by have := HRW.out; omega))
      go_wp2
      have HIZ : Hid (itZ i 0 = (i : Int) * 4096) := Lib.hid (by rw [itZ_zero, show IntKind.u16.wrap ((i : Int) * 4096) = ((i : Int) * 4096) % 65536 by simp [IntKind.wrap, IntKind.bits, IntKind.signed]]; omega)
      clear h0
      go_loopw [3, 10] (fun vc vk wq => ∃ k : Nat, vc = .int .u16 (itZ i k) ∧ vk = .int .i64 (k : Int) ∧ k ≤ 4 ∧ wr = wq) (fun _ vk _ => 4 - (intOf vk).toNat)
      case atStart => exact ⟨0, by rw [HIZ.out], rfl, by omega, rfl⟩
      case round =>
        obtain ⟨k, rfl, rfl, hk, hwr⟩ := hrel
        subst hwr
        have hgo : k < 4 ∨ k = 4 := by omega
        rcases hgo with hkl | rfl
        · have hkl' : (k : Int) < 4 := by omega
          have HY := Lib.hid (@itZ_yes i k)
          have HNo := Lib.hid (@itZ_no i k)
          generalize itZ i k = x at *
          by_cases hb : bits .and .u16 x 32768 = 0
          · have HE := Lib.hid (HY.out hb)
            have hb1 : (bits .and .u16 x 32768 == 0) = true := by simp [hb]
            clear HY HNo
            go_wp2
            go_roundw
            case rel => exact ⟨k + 1, by rw [HE.out], by go_num, by omega, by trivial⟩
            case measure => simp [intOf]; omega
          · have HE := Lib.hid (HNo.out hb)
            have hb1 : (bits .and .u16 x 32768 == 0) = false := by simp [hb]
            clear HY HNo
            go_wp2
            go_roundw
            case rel => exact ⟨k + 1, by rw [HE.out], by go_num, by omega, by trivial⟩
            case measure => simp [intOf]; omega
        · rw [HTA.out]
          go_wp2
          go_roundw
          case rel => exact ⟨i + 1, by go_num, by omega, HT2, HR2, HB2⟩
          case measure => simp [intOf]; omega
    · skip
      have hc0 : wr.cell? ⟨r + 1, 0, none⟩ = some (.int .u16 (tab 0)) := cell_at HT.out 0 rfl
      have hc1 : wr.cell? ⟨r + 1, 1, none⟩ = some (.int .u16 (tab 1)) := cell_at HT.out 1 rfl
      have hc2 : wr.cell? ⟨r + 1, 2, none⟩ = some (.int .u16 (tab 2)) := cell_at HT.out 2 rfl
      have hc3 : wr.cell? ⟨r + 1, 3, none⟩ = some (.int .u16 (tab 3)) := cell_at HT.out 3 rfl
      have hc4 : wr.cell? ⟨r + 1, 4, none⟩ = some (.int .u16 (tab 4)) := cell_at HT.out 4 rfl
      have hc5 : wr.cell? ⟨r + 1, 5, none⟩ = some (.int .u16 (tab 5)) := cell_at HT.out 5 rfl
      have hc6 : wr.cell? ⟨r + 1, 6, none⟩ = some (.int .u16 (tab 6)) := cell_at HT.out 6 rfl
      have hc7 : wr.cell? ⟨r + 1, 7, none⟩ = some (.int .u16 (tab 7)) := cell_at HT.out 7 rfl
      have hc8 : wr.cell? ⟨r + 1, 8, none⟩ = some (.int .u16 (tab 8)) := cell_at HT.out 8 rfl
      have hc9 : wr.cell? ⟨r + 1, 9, none⟩ = some (.int .u16 (tab 9)) := cell_at HT.out 9 rfl
      have hc10 : wr.cell? ⟨r + 1, 10, none⟩ = some (.int .u16 (tab 10)) := cell_at HT.out 10 rfl
      have hc11 : wr.cell? ⟨r + 1, 11, none⟩ = some (.int .u16 (tab 11)) := cell_at HT.out 11 rfl
      have hc12 : wr.cell? ⟨r + 1, 12, none⟩ = some (.int .u16 (tab 12)) := cell_at HT.out 12 rfl
      have hc13 : wr.cell? ⟨r + 1, 13, none⟩ = some (.int .u16 (tab 13)) := cell_at HT.out 13 rfl
      have hc14 : wr.cell? ⟨r + 1, 14, none⟩ = some (.int .u16 (tab 14)) := cell_at HT.out 14 rfl
      have hc15 : wr.cell? ⟨r + 1, 15, none⟩ = some (.int .u16 (tab 15)) := cell_at HT.out 15 rfl
      have B0 := HR.out
      have hd0 : wr.cell? ⟨r, 0, none⟩ = some (.int .u16 0) := cell_at B0 0 rfl
      have hf0 : wr.frozen? ⟨r, 0, none⟩ = false := blk_frozen B0 0
      have B1 := blk_set B0 0 (.int .u16 (tab 0))
      rw [cel16_set, celN_set 0 (by decide)] at B1
      have hd1 : (wr.setCell ⟨r, 0, none⟩ (.int .u16 (tab 0))).cell? ⟨r, 1, none⟩ = some (.int .u16 0) := cell_at B1 1 rfl
      have hf1 : (wr.setCell ⟨r, 0, none⟩ (.int .u16 (tab 0))).frozen? ⟨r, 1, none⟩ = false := blk_frozen B1 1
      have B2 := blk_set B1 1 (.int .u16 (tab 1))
      rw [cel16_set, celN_set 1 (by decide)] at B2
      have hd2 : ((wr.setCell ⟨r, 0, none⟩ (.int .u16 (tab 0))).setCell ⟨r, 1, none⟩ (.int .u16 (tab 1))).cell? ⟨r, 2, none⟩ = some (.int .u16 0) := cell_at B2 2 rfl
      have hf2 : ((wr.setCell ⟨r, 0, none⟩ (.int .u16 (tab 0))).setCell ⟨r, 1, none⟩ (.int .u16 (tab 1))).frozen? ⟨r, 2, none⟩ = false := blk_frozen B2 2
      have B3 := blk_set B2 2 (.int .u16 (tab 2))
      rw [cel16_set, celN_set 2 (by decide)] at B3
      have hd3 : (((wr.setCell ⟨r, 0, none⟩ (.int .u16 (tab 0))).setCell ⟨r, 1, none⟩ (.int .u16 (tab 1))).setCell ⟨r, 2, none⟩ (.int .u16 (tab 2))).cell? ⟨r, 3, none⟩ = some (.int .u16 0) := cell_at B3 3 rfl
      have hf3 : (((wr.setCell ⟨r, 0, none⟩ (.int .u16 (tab 0))).setCell ⟨r, 1, none⟩ (.int .u16 (tab 1))).setCell ⟨r, 2, none⟩ (.int .u16 (tab 2))).frozen? ⟨r, 3, none⟩ = false := blk_frozen B3 3
      have B4 := blk_set B3 3 (.int .u16 (tab 3))
      rw [cel16_set, celN_set 3 (by decide)] at B4
      have hd4 : ((((wr.setCell ⟨r, 0, none⟩ (.int .u16 (tab 0))).setCell ⟨r, 1, none⟩ (.int .u16 (tab 1))).setCell ⟨r, 2, none⟩ (.int .u16 (tab 2))).setCell ⟨r, 3, none⟩ (.int .u16 (tab 3))).cell? ⟨r, 4, none⟩ = some (.int .u16 0) := cell_at B4 4 rfl
      have hf4 : ((((wr.setCell ⟨r, 0, none⟩ (.int .u16 (tab 0))).setCell ⟨r, 1, none⟩ (.int .u16 (tab 1))).setCell ⟨r, 2, none⟩ (.int .u16 (tab 2))).setCell ⟨r, 3, none⟩ (.int .u16 (tab 3))).frozen? ⟨r, 4, none⟩ = false := blk_frozen B4 4
      have B5 := blk_set B4 4 (.int .u16 (tab 4))
      rw [cel16_set, celN_set 4 (by decide)] at B5
      have hd5 : (((((wr.setCell ⟨r, 0, none⟩ (.int .u16 (tab 0))).setCell ⟨r, 1, none⟩ (.int .u16 (tab 1))).setCell ⟨r, 2, none⟩ (.int .u16 (tab 2))).setCell ⟨r, 3, none⟩ (.int .u16 (tab 3))).setCell ⟨r, 4, none⟩ (.int .u16 (tab 4))).cell? ⟨r, 5, none⟩ = some (.int .u16 0) := cell_at B5 5 rfl
      have hf5 : (((((wr.setCell ⟨r, 0, none⟩ (.int .u16 (tab 0))).setCell ⟨r, 1, none⟩ (.int .u16 (tab 1))).setCell ⟨r, 2, none⟩ (.int .u16 (tab 2))).setCell ⟨r, 3, none⟩ (.int .u16 (tab 3))).setCell ⟨r, 4, none⟩ (.int .u16 (tab 4))).frozen? ⟨r, 5, none⟩ = false := blk_frozen B5 5
      have B6 := blk_set B5 5 (.int .u16 (tab 5))
      rw [cel16_set, celN_set 5 (by decide)] at B6
      have hd6 : ((((((wr.setCell ⟨r, 0, none⟩ (.int .u16 (tab 0))).setCell ⟨r, 1, none⟩ (.int .u16 (tab 1))).setCell ⟨r, 2, none⟩ (.int .u16 (tab 2))).setCell ⟨r, 3, none⟩ (.int .u16 (tab 3))).setCell ⟨r, 4, none⟩ (.int .u16 (tab 4))).setCell ⟨r, 5, none⟩ (.int .u16 (tab 5))).cell? ⟨r, 6, none⟩ = some (.int .u16 0) := cell_at B6 6 rfl
      have hf6 : ((((((wr.setCell ⟨r, 0, none⟩ (.int .u16 (tab 0))).setCell ⟨r, 1, none⟩ (.int .u16 (tab 1))).setCell ⟨r, 2, none⟩ (.int .u16 (tab 2))).setCell ⟨r, 3, none⟩ (.int .u16 (tab 3))).setCell ⟨r, 4, none⟩ (.int .u16 (tab 4))).setCell ⟨r, 5, none⟩ (.int .u16 (tab 5))).frozen? ⟨r, 6, none⟩ = false := blk_frozen B6 6
      have B7 := blk_set B6 6 (.int .u16 (tab 6))
      rw [cel16_set, celN_set 6 (by decide)] at B7
      have hd7 : (((((((wr.setCell ⟨r, 0, none⟩ (.int .u16 (tab 0))).setCell ⟨r, 1, none⟩ (.int .u16 (tab 1))).setCell ⟨r, 2, none⟩ (.int .u16 (tab 2))).setCell ⟨r, 3, none⟩ (.int .u16 (tab 3))).setCell ⟨r, 4, none⟩ (.int .u16 (tab 4))).setCell ⟨r, 5, none⟩ (.int .u16 (tab 5))).setCell ⟨r, 6, none⟩ (.int .u16 (tab 6))).cell? ⟨r, 7, none⟩ = some (.int .u16 0) := cell_at B7 7 rfl
      have hf7 : (((((((wr.setCell ⟨r, 0, none⟩ (.int .u16 (tab 0))).setCell ⟨r, 1, none⟩ (.int .u16 (tab 1))).setCell ⟨r, 2, none⟩ (.int .u16 (tab 2))).setCell ⟨r, 3, none⟩ (.int .u16 (tab 3))).setCell ⟨r, 4, none⟩ (.int .u16 (tab 4))).setCell ⟨r, 5, none⟩ (.int .u16 (tab 5))).setCell ⟨r, 6, none⟩ (.int .u16 (tab 6))).frozen? ⟨r, 7, none⟩ = false := blk_frozen B7 7
      have B8 := blk_set B7 7 (.int .u16 (tab 7))
      rw [cel16_set, celN_set 7 (by decide)] at B8
      have hd8 : ((((((((wr.setCell ⟨r, 0, none⟩ (.int .u16 (tab 0))).setCell ⟨r, 1, none⟩ (.int .u16 (tab 1))).setCell ⟨r, 2, none⟩ (.int .u16 (tab 2))).setCell ⟨r, 3, none⟩ (.int .u16 (tab 3))).setCell ⟨r, 4, none⟩ (.int .u16 (tab 4))).setCell ⟨r, 5, none⟩ (.int .u16 (tab 5))).setCell ⟨r, 6, none⟩ (.int .u16 (tab 6))).setCell ⟨r, 7, none⟩ (.int .u16 (tab 7))).cell? ⟨r, 8, none⟩ = some (.int .u16 0) := cell_at B8 8 rfl
      have hf8 : ((((((((wr.setCell ⟨r, 0, none⟩ (.int .u16 (tab 0))).setCell ⟨r, 1, none⟩ (.int .u16 (tab 1))).setCell ⟨r, 2, none⟩ (.int .u16 (tab 2))).setCell ⟨r, 3, none⟩ (.int .u16 (tab 3))).setCell ⟨r, 4, none⟩ (.int .u16 (tab 4))).setCell ⟨r, 5, none⟩ (.int .u16 (tab 5))).setCell ⟨r, 6, none⟩ (.int .u16 (tab 6))).setCell ⟨r, 7, none⟩ (.int .u16 (tab 7))).frozen? ⟨r, 8, none⟩ = false := blk_frozen B8 8
      have B9 := blk_set B8 8 (.int .u16 (tab 8))
      rw [cel16_set, celN_set 8 (by decide)] at B9
      have hd9 : (((((((((wr.setCell ⟨r, 0, none⟩ (.int .u16 (tab 0))).setCell ⟨r, 1, none⟩ (.int .u16 (tab 1))).setCell ⟨r, 2, none⟩ (.int .u16 (tab 2))).setCell ⟨r, 3, none⟩ (.int .u16 (tab 3))).setCell ⟨r, 4, none⟩ (.int .u16 (tab 4))).setCell ⟨r, 5, none⟩ (.int .u16 (tab 5))).setCell ⟨r, 6, none⟩ (.int .u16 (tab 6))).setCell ⟨r, 7, none⟩ (.int .u16 (tab 7))).setCell ⟨r, 8, none⟩ (.int .u16 (tab 8))).cell? ⟨r, 9, none⟩ = some (.int .u16 0) := cell_at B9 9 rfl
      have hf9 : (((((((((wr.setCell ⟨r, 0, none⟩ (.int .u16 (tab 0))).setCell ⟨r, 1, none⟩ (.int .u16 (tab 1))).setCell ⟨r, 2, none⟩ (.int .u16 (tab 2))).setCell ⟨r, 3, none⟩ (.int .u16 (tab 3))).setCell ⟨r, 4, none⟩ (.int .u16 (tab 4))).setCell ⟨r, 5, none⟩ (.int .u16 (tab 5))).setCell ⟨r, 6, none⟩ (.int .u16 (tab 6))).setCell ⟨r, 7, none⟩ (.int .u16 (tab 7))).setCell ⟨r, 8, none⟩ (.int .u16 (tab 8))).frozen? ⟨r, 9, none⟩ = false := blk_frozen B9 9
      have B10 := blk_set B9 9 (.int .u16 (tab 9))
      rw [cel16_set, celN_set 9 (by decide)] at B10
      have hd10 : ((((((((((wr.setCell ⟨r, 0, none⟩ (.int .u16 (tab 0))).setCell ⟨r, 1, none⟩ (.int .u16 (tab 1))).setCell ⟨r, 2, none⟩ (.int .u16 (tab 2))).setCell ⟨r, 3, none⟩ (.int .u16 (tab 3))).setCell ⟨r, 4, none⟩ (.int .u16 (tab 4))).setCell ⟨r, 5, none⟩ (.int .u16 (tab 5))).setCell ⟨r, 6, none⟩ (.int .u16 (tab 6))).setCell ⟨r, 7, none⟩ (.int .u16 (tab 7))).setCell ⟨r, 8, none⟩ (.int .u16 (tab 8))).setCell ⟨r, 9, none⟩ (.int .u16 (tab 9))).cell? ⟨r, 10, none⟩ = some (.int .u16 0) := cell_at B10 10 rfl
      have hf10 : ((((((((((wr.setCell ⟨r, 0, none⟩ (.int .u16 (tab 0))).setCell ⟨r, 1, none⟩ (.int .u16 (tab 1))).setCell ⟨r, 2, none⟩ (.int .u16 (tab 2))).setCell ⟨r, 3, none⟩ (.int .u16 (tab 3))).setCell ⟨r, 4, none⟩ (.int .u16 (tab 4))).setCell ⟨r, 5, none⟩ (.int .u16 (tab 5))).setCell ⟨r, 6, none⟩ (.int .u16 (tab 6))).setCell ⟨r, 7, none⟩ (.int .u16 (tab 7))).setCell ⟨r, 8, none⟩ (.int .u16 (tab 8))).setCell ⟨r, 9, none⟩ (.int .u16 (tab 9))).frozen? ⟨r, 10, none⟩ = false := blk_frozen B10 10
      have B11 := blk_set B10 10 (.int .u16 (tab 10))
      rw [cel16_set, celN_set 10 (by decide)] at B11
      have hd11 : (((((((((((wr.setCell ⟨r, 0, none⟩ (.int .u16 (tab 0))).setCell ⟨r, 1, none⟩ (.int .u16 (tab 1))).setCell ⟨r, 2, none⟩ (.int .u16 (tab 2))).setCell ⟨r, 3, none⟩ (.int .u16 (tab 3))).setCell ⟨r, 4, none⟩ (.int .u16 (tab 4))).setCell ⟨r, 5, none⟩ (.int .u16 (tab 5))).setCell ⟨r, 6, none⟩ (.int .u16 (tab 6))).setCell ⟨r, 7, none⟩ (.int .u16 (tab 7))).setCell ⟨r, 8, none⟩ (.int .u16 (tab 8))).setCell ⟨r, 9, none⟩ (.int .u16 (tab 9))).setCell ⟨r, 10, none⟩ (.int .u16 (tab 10))).cell? ⟨r, 11, none⟩ = some (.int .u16 0) := cell_at B11 11 rfl
      have hf11 : (((((((((((wr.setCell ⟨r, 0, none⟩ (.int .u16 (tab 0))).setCell ⟨r, 1, none⟩ (.int .u16 (tab 1))).setCell ⟨r, 2, none⟩ (.int .u16 (tab 2))).setCell ⟨r, 3, none⟩ (.int .u16 (tab 3))).setCell ⟨r, 4, none⟩ (.int .u16 (tab 4))).setCell ⟨r, 5, none⟩ (.int .u16 (tab 5))).setCell ⟨r, 6, none⟩ (.int .u16 (tab 6))).setCell ⟨r, 7, none⟩ (.int .u16 (tab 7))).setCell ⟨r, 8, none⟩ (.int .u16 (tab 8))).setCell ⟨r, 9, none⟩ (.int .u16 (tab 9))).setCell ⟨r, 10, none⟩ (.int .u16 (tab 10))).frozen? ⟨r, 11, none⟩ = false := blk_frozen B11 11
      have B12 := blk_set B11 11 (.int .u16 (tab 11))
      rw [cel16_set, celN_set 11 (by decide)] at B12
      have hd12 : ((((((((((((wr.setCell ⟨r, 0, none⟩ (.int .u16 (tab 0))).setCell ⟨r, 1, none⟩ (.int .u16 (tab 1))).setCell ⟨r, 2, none⟩ (.int .u16 (tab 2))).setCell ⟨r, 3, none⟩ (.int .u16 (tab 3))).setCell ⟨r, 4, none⟩ (.int .u16 (tab 4))).setCell ⟨r, 5, none⟩ (.int .u16 (tab 5))).setCell ⟨r, 6, none⟩ (.int .u16 (tab 6))).setCell ⟨r, 7, none⟩ (.int .u16 (tab 7))).setCell ⟨r, 8, none⟩ (.int .u16 (tab 8))).setCell ⟨r, 9, none⟩ (.int .u16 (tab 9))).setCell ⟨r, 10, none⟩ (.int .u16 (tab 10))).setCell ⟨r, 11, none⟩ (.int .u16 (tab 11))).cell? ⟨r, 12, none⟩ = some (.int .u16 0) := cell_at B12 12 rfl
      have hf12 : ((((((((((((wr.setCell ⟨r, 0, none⟩ (.int .u16 (tab 0))).setCell ⟨r, 1, none⟩ (.int .u16 (tab 1))).setCell ⟨r, 2, none⟩ (.int .u16 (tab 2))).setCell ⟨r, 3, none⟩ (.int .u16 (tab 3))).setCell ⟨r, 4, none⟩ (.int .u16 (tab 4))).setCell ⟨r, 5, none⟩ (.int .u16 (tab 5))).setCell ⟨r, 6, none⟩ (.int .u16 (tab 6))).setCell ⟨r, 7, none⟩ (.int .u16 (tab 7))).setCell ⟨r, 8, none⟩ (.int .u16 (tab 8))).setCell ⟨r, 9, none⟩ (.int .u16 (tab 9))).setCell ⟨r, 10, none⟩ (.int .u16 (tab 10))).setCell ⟨r, 11, none⟩ (.int .u16 (tab 11))).frozen? ⟨r, 12, none⟩ = false := blk_frozen B12 12
      have B13 := blk_set B12 12 (.int .u16 (tab 12))
      rw [cel16_set, celN_set 12 (by decide)] at B13
      have hd13 : (((((((((((((wr.setCell ⟨r, 0, none⟩ (.int .u16 (tab 0))).setCell ⟨r, 1, none⟩ (.int .u16 (tab 1))).setCell ⟨r, 2, none⟩ (.int .u16 (tab 2))).setCell ⟨r, 3, none⟩ (.int .u16 (tab 3))).setCell ⟨r, 4, none⟩ (.int .u16 (tab 4))).setCell ⟨r, 5, none⟩ (.int .u16 (tab 5))).setCell ⟨r, 6, none⟩ (.int .u16 (tab 6))).setCell ⟨r, 7, none⟩ (.int .u16 (tab 7))).setCell ⟨r, 8, none⟩ (.int .u16 (tab 8))).setCell ⟨r, 9, none⟩ (.int .u16 (tab 9))).setCell ⟨r, 10, none⟩ (.int .u16 (tab 10))).setCell ⟨r, 11, none⟩ (.int .u16 (tab 11))).setCell ⟨r, 12, none⟩ (.int .u16 (tab 12))).cell? ⟨r, 13, none⟩ = some (.int .u16 0) := cell_at B13 13 rfl
      have hf13 : (((((((((((((wr.setCell ⟨r, 0, none⟩ (.int .u16 (tab 0))).setCell ⟨r, 1, none⟩ (.int .u16 (tab 1))).setCell ⟨r, 2, none⟩ (.int .u16 (tab 2))).setCell ⟨r, 3, none⟩ (.int .u16 (tab 3))).setCell ⟨r, 4, none⟩ (.int .u16 (tab 4))).setCell ⟨r, 5, none⟩ (.int .u16 (tab 5))).setCell ⟨r, 6, none⟩ (.int .u16 (tab 6))).setCell ⟨r, 7, none⟩ (.int .u16 (tab 7))).setCell ⟨r, 8, none⟩ (.int .u16 (tab 8))).setCell ⟨r, 9, none⟩ (.int .u16 (tab 9))).setCell ⟨r, 10, none⟩ (.int .u16 (tab 10))).setCell ⟨r, 11, none⟩ (.int .u16 (tab 11))).setCell ⟨r, 12, none⟩ (.int .u16 (tab 12))).frozen? ⟨r, 13, none⟩ = false := blk_frozen B13 13
      have B14 := blk_set B13 13 (.int .u16 (tab 13))
      rw [cel16_set, celN_set 13 (by decide)] at B14
      have hd14 : ((((((((((((((wr.setCell ⟨r, 0, none⟩ (.int .u16 (tab 0))).setCell ⟨r, 1, none⟩ (.int .u16 (tab 1))).setCell ⟨r, 2, none⟩ (.int .u16 (tab 2))).setCell ⟨r, 3, none⟩ (.int .u16 (tab 3))).setCell ⟨r, 4, none⟩ (.int .u16 (tab 4))).setCell ⟨r, 5, none⟩ (.int .u16 (tab 5))).setCell ⟨r, 6, none⟩ (.int .u16 (tab 6))).setCell ⟨r, 7, none⟩ (.int .u16 (tab 7))).setCell ⟨r, 8, none⟩ (.int .u16 (tab 8))).setCell ⟨r, 9, none⟩ (.int .u16 (tab 9))).setCell ⟨r, 10, none⟩ (.int .u16 (tab 10))).setCell ⟨r, 11, none⟩ (.int .u16 (tab 11))).setCell ⟨r, 12, none⟩ (.int .u16 (tab 12))).setCell ⟨r, 13, none⟩ (.int .u16 (tab 13))).cell? ⟨r, 14, none⟩ = some (.int .u16 0) := cell_at B14 14 rfl
      have hf14 : ((((((((((((((wr.setCell ⟨r, 0, none⟩ (.int .u16 (tab 0))).setCell ⟨r, 1, none⟩ (.int .u16 (tab 1))).setCell ⟨r, 2, none⟩ (.int .u16 (tab 2))).setCell ⟨r, 3, none⟩ (.int .u16 (tab 3))).setCell ⟨r, 4, none⟩ (.int .u16 (tab 4))).setCell ⟨r, 5, none⟩ (.int .u16 (tab 5))).setCell ⟨r, 6, none⟩ (.int .u16 (tab 6))).setCell ⟨r, 7, none⟩ (.int .u16 (tab 7))).setCell ⟨r, 8, none⟩ (.int .u16 (tab 8))).setCell ⟨r, 9, none⟩ (.int .u16 (tab 9))).setCell ⟨r, 10, none⟩ (.int .u16 (tab 10))).setCell ⟨r, 11, none⟩ (.int .u16 (tab 11))).setCell ⟨r, 12, none⟩ (.int .u16 (tab 12))).setCell ⟨r, 13, none⟩ (.int .u16 (tab 13))).frozen? ⟨r, 14, none⟩ = false := blk_frozen B14 14
      have B15 := blk_set B14 14 (.int .u16 (tab 14))
      rw [cel16_set, celN_set 14 (by decide)] at B15
      have hd15 : (((((((((((((((wr.setCell ⟨r, 0, none⟩ (.int .u16 (tab 0))).setCell ⟨r, 1, none⟩ (.int .u16 (tab 1))).setCell ⟨r, 2, none⟩ (.int .u16 (tab 2))).setCell ⟨r, 3, none⟩ (.int .u16 (tab 3))).setCell ⟨r, 4, none⟩ (.int .u16 (tab 4))).setCell ⟨r, 5, none⟩ (.int .u16 (tab 5))).setCell ⟨r, 6, none⟩ (.int .u16 (tab 6))).setCell ⟨r, 7, none⟩ (.int .u16 (tab 7))).setCell ⟨r, 8, none⟩ (.int .u16 (tab 8))).setCell ⟨r, 9, none⟩ (.int .u16 (tab 9))).setCell ⟨r, 10, none⟩ (.int .u16 (tab 10))).setCell ⟨r, 11, none⟩ (.int .u16 (tab 11))).setCell ⟨r, 12, none⟩ (.int .u16 (tab 12))).setCell ⟨r, 13, none⟩ (.int .u16 (tab 13))).setCell ⟨r, 14, none⟩ (.int .u16 (tab 14))).cell? ⟨r, 15, none⟩ = some (.int .u16 0) := cell_at B15 15 rfl
      have hf15 : (((((((((((((((wr.setCell ⟨r, 0, none⟩ (.int .u16 (tab 0))).setCell ⟨r, 1, none⟩ (.int .u16 (tab 1))).setCell ⟨r, 2, none⟩ (.int .u16 (tab 2))).setCell ⟨r, 3, none⟩ (.int .u16 (tab 3))).setCell ⟨r, 4, none⟩ (.int .u16 (tab 4))).setCell ⟨r, 5, none⟩ (.int .u16 (tab 5))).setCell ⟨r, 6, none⟩ (.int .u16 (tab 6))).setCell ⟨r, 7, none⟩ (.int .u16 (tab 7))).setCell ⟨r, 8, none⟩ (.int .u16 (tab 8))).setCell ⟨r, 9, none⟩ (.int .u16 (tab 9))).setCell ⟨r, 10, none⟩ (.int .u16 (tab 10))).setCell ⟨r, 11, none⟩ (.int .u16 (tab 11))).setCell ⟨r, 12, none⟩ (.int .u16 (tab 12))).setCell ⟨r, 13, none⟩ (.int .u16 (tab 13))).setCell ⟨r, 14, none⟩ (.int .u16 (tab 14))).frozen? ⟨r, 15, none⟩ = false := blk_frozen B15 15
      have B16 := blk_set B15 15 (.int .u16 (tab 15))
      rw [cel16_set, celN_set 15 (by decide)] at B16
      have he0 : ((((((((((((((((wr.setCell ⟨r, 0, none⟩ (.int .u16 (tab 0))).setCell ⟨r, 1, none⟩ (.int .u16 (tab 1))).setCell ⟨r, 2, none⟩ (.int .u16 (tab 2))).setCell ⟨r, 3, none⟩ (.int .u16 (tab 3))).setCell ⟨r, 4, none⟩ (.int .u16 (tab 4))).setCell ⟨r, 5, none⟩ (.int .u16 (tab 5))).setCell ⟨r, 6, none⟩ (.int .u16 (tab 6))).setCell ⟨r, 7, none⟩ (.int .u16 (tab 7))).setCell ⟨r, 8, none⟩ (.int .u16 (tab 8))).setCell ⟨r, 9, none⟩ (.int .u16 (tab 9))).setCell ⟨r, 10, none⟩ (.int .u16 (tab 10))).setCell ⟨r, 11, none⟩ (.int .u16 (tab 11))).setCell ⟨r, 12, none⟩ (.int .u16 (tab 12))).setCell ⟨r, 13, none⟩ (.int .u16 (tab 13))).setCell ⟨r, 14, none⟩ (.int .u16 (tab 14))).setCell ⟨r, 15, none⟩ (.int .u16 (tab 15))).cell? ⟨r, 0, none⟩ = some (.int .u16 (tab 0)) := cell_at B16 0 rfl
      have he1 : ((((((((((((((((wr.setCell ⟨r, 0, none⟩ (.int .u16 (tab 0))).setCell ⟨r, 1, none⟩ (.int .u16 (tab 1))).setCell ⟨r, 2, none⟩ (.int .u16 (tab 2))).setCell ⟨r, 3, none⟩ (.int .u16 (tab 3))).setCell ⟨r, 4, none⟩ (.int .u16 (tab 4))).setCell ⟨r, 5, none⟩ (.int .u16 (tab 5))).setCell ⟨r, 6, none⟩ (.int .u16 (tab 6))).setCell ⟨r, 7, none⟩ (.int .u16 (tab 7))).setCell ⟨r, 8, none⟩ (.int .u16 (tab 8))).setCell ⟨r, 9, none⟩ (.int .u16 (tab 9))).setCell ⟨r, 10, none⟩ (.int .u16 (tab 10))).setCell ⟨r, 11, none⟩ (.int .u16 (tab 11))).setCell ⟨r, 12, none⟩ (.int .u16 (tab 12))).setCell ⟨r, 13, none⟩ (.int .u16 (tab 13))).setCell ⟨r, 14, none⟩ (.int .u16 (tab 14))).setCell ⟨r, 15, none⟩ (.int .u16 (tab 15))).cell? ⟨r, 1, none⟩ = some (.int .u16 (tab 1)) := cell_at B16 1 rfl
      have he2 : ((((((((((((((((wr.setCell ⟨r, 0, none⟩ (.int .u16 (tab 0))).setCell ⟨r, 1, none⟩ (.int .u16 (tab 1))).setCell ⟨r, 2, none⟩ (.int .u16 (tab 2))).setCell ⟨r, 3, none⟩ (.int .u16 (tab 3))).setCell ⟨r, 4, none⟩ (.int .u16 (tab 4))).setCell ⟨r, 5, none⟩ (.int .u16 (tab 5))).setCell ⟨r, 6, none⟩ (.int .u16 (tab 6))).setCell ⟨r, 7, none⟩ (.int .u16 (tab 7))).setCell ⟨r, 8, none⟩ (.int .u16 (tab 8))).setCell ⟨r, 9, none⟩ (.int .u16 (tab 9))).setCell ⟨r, 10, none⟩ (.int .u16 (tab 10))).setCell ⟨r, 11, none⟩ (.int .u16 (tab 11))).setCell ⟨r, 12, none⟩ (.int .u16 (tab 12))).setCell ⟨r, 13, none⟩ (.int .u16 (tab 13))).setCell ⟨r, 14, none⟩ (.int .u16 (tab 14))).setCell ⟨r, 15, none⟩ (.int .u16 (tab 15))).cell? ⟨r, 2, none⟩ = some (.int .u16 (tab 2)) := cell_at B16 2 rfl
      have he3 : ((((((((((((((((wr.setCell ⟨r, 0, none⟩ (.int .u16 (tab 0))).setCell ⟨r, 1, none⟩ (.int .u16 (tab 1))).setCell ⟨r, 2, none⟩ (.int .u16 (tab 2))).setCell ⟨r, 3, none⟩ (.int .u16 (tab 3))).setCell ⟨r, 4, none⟩ (.int .u16 (tab 4))).setCell ⟨r, 5, none⟩ (.int .u16 (tab 5))).setCell ⟨r, 6, none⟩ (.int .u16 (tab 6))).setCell ⟨r, 7, none⟩ (.int .u16 (tab 7))).setCell ⟨r, 8, none⟩ (.int .u16 (tab 8))).setCell ⟨r, 9, none⟩ (.int .u16 (tab 9))).setCell ⟨r, 10, none⟩ (.int .u16 (tab 10))).setCell ⟨r, 11, none⟩ (.int .u16 (tab 11))).setCell ⟨r, 12, none⟩ (.int .u16 (tab 12))).setCell ⟨r, 13, none⟩ (.int .u16 (tab 13))).setCell ⟨r, 14, none⟩ (.int .u16 (tab 14))).setCell ⟨r, 15, none⟩ (.int .u16 (tab 15))).cell? ⟨r, 3, none⟩ = some (.int .u16 (tab 3)) := cell_at B16 3 rfl
      have he4 : ((((((((((((((((wr.setCell ⟨r, 0, none⟩ (.int .u16 (tab 0))).setCell ⟨r, 1, none⟩ (.int .u16 (tab 1))).setCell ⟨r, 2, none⟩ (.int .u16 (tab 2))).setCell ⟨r, 3, none⟩ (.int .u16 (tab 3))).setCell ⟨r, 4, none⟩ (.int .u16 (tab 4))).setCell ⟨r, 5, none⟩ (.int .u16 (tab 5))).setCell ⟨r, 6, none⟩ (.int .u16 (tab 6))).setCell ⟨r, 7, none⟩ (.int .u16 (tab 7))).setCell ⟨r, 8, none⟩ (.int .u16 (tab 8))).setCell ⟨r, 9, none⟩ (.int .u16 (tab 9))).setCell ⟨r, 10, none⟩ (.int .u16 (tab 10))).setCell ⟨r, 11, none⟩ (.int .u16 (tab 11))).setCell ⟨r, 12, none⟩ (.int .u16 (tab 12))).setCell ⟨r, 13, none⟩ (.int .u16 (tab 13))).setCell ⟨r, 14, none⟩ (.int .u16 (tab 14))).setCell ⟨r, 15, none⟩ (.int .u16 (tab 15))).cell? ⟨r, 4, none⟩ = some (.int .u16 (tab 4)) := cell_at B16 4 rfl
      have he5 : ((((((((((((((((wr.setCell ⟨r, 0, none⟩ (.int .u16 (tab 0))).setCell ⟨r, 1, none⟩ (.int .u16 (tab 1))).setCell ⟨r, 2, none⟩ (.int .u16 (tab 2))).setCell ⟨r, 3, none⟩ (.int .u16 (tab 3))).setCell ⟨r, 4, none⟩ (.int .u16 (tab 4))).setCell ⟨r, 5, none⟩ (.int .u16 (tab 5))).setCell ⟨r, 6, none⟩ (.int .u16 (tab 6))).setCell ⟨r, 7, none⟩ (.int .u16 (tab 7))).setCell ⟨r, 8, none⟩ (.int .u16 (tab 8))).setCell ⟨r, 9, none⟩ (.int .u16 (tab 9))).setCell ⟨r, 10, none⟩ (.int .u16 (tab 10))).setCell ⟨r, 11, none⟩ (.int .u16 (tab 11))).setCell ⟨r, 12, none⟩ (.int .u16 (tab 12))).setCell ⟨r, 13, none⟩ (.int .u16 (tab 13))).setCell ⟨r, 14, none⟩ (.int .u16 (tab 14))).setCell ⟨r, 15, none⟩ (.int .u16 (tab 15))).cell? ⟨r, 5, none⟩ = some (.int .u16 (tab 5)) := cell_at B16 5 rfl
      have he6 : ((((((((((((((((wr.setCell ⟨r, 0, none⟩ (.int .u16 (tab 0))).setCell ⟨r, 1, none⟩ (.int .u16 (tab 1))).setCell ⟨r, 2, none⟩ (.int .u16 (tab 2))).setCell ⟨r, 3, none⟩ (.int .u16 (tab 3))).setCell ⟨r, 4, none⟩ (.int .u16 (tab 4))).setCell ⟨r, 5, none⟩ (.int .u16 (tab 5))).setCell ⟨r, 6, none⟩ (.int .u16 (tab 6))).setCell ⟨r, 7, none⟩ (.int .u16 (tab 7))).setCell ⟨r, 8, none⟩ (.int .u16 (tab 8))).setCell ⟨r, 9, none⟩ (.int .u16 (tab 9))).setCell ⟨r, 10, none⟩ (.int .u16 (tab 10))).setCell ⟨r, 11, none⟩ (.int .u16 (tab 11))).setCell ⟨r, 12, none⟩ (.int .u16 (tab 12))).setCell ⟨r, 13, none⟩ (.int .u16 (tab 13))).setCell ⟨r, 14, none⟩ (.int .u16 (tab 14))).setCell ⟨r, 15, none⟩ (.int .u16 (tab 15))).cell? ⟨r, 6, none⟩ = some (.int .u16 (tab 6)) := cell_at B16 6 rfl
      have he7 : ((((((((((((((((wr.setCell ⟨r, 0, none⟩ (.int .u16 (tab 0))).setCell ⟨r, 1, none⟩ (.int .u16 (tab 1))).setCell ⟨r, 2, none⟩ (.int .u16 (tab 2))).setCell ⟨r, 3, none⟩ (.int .u16 (tab 3))).setCell ⟨r, 4, none⟩ (.int .u16 (tab 4))).setCell ⟨r, 5, none⟩ (.int .u16 (tab 5))).setCell ⟨r, 6, none⟩ (.int .u16 (tab 6))).setCell ⟨r, 7, none⟩ (.int .u16 (tab 7))).setCell ⟨r, 8, none⟩ (.int .u16 (tab 8))).setCell ⟨r, 9, none⟩ (.int .u16 (tab 9))).setCell ⟨r, 10, none⟩ (.int .u16 (tab 10))).setCell ⟨r, 11, none⟩ (.int .u16 (tab 11))).setCell ⟨r, 12, none⟩ (.int .u16 (tab 12))).setCell ⟨r, 13, none⟩ (.int .u16 (tab 13))).setCell ⟨r, 14, none⟩ (.int .u16 (tab 14))).setCell ⟨r, 15, none⟩ (.int .u16 (tab 15))).cell? ⟨r, 7, none⟩ = some (.int .u16 (tab 7)) := cell_at B16 7 rfl
      have he8 : ((((((((((((((((wr.setCell ⟨r, 0, none⟩ (.int .u16 (tab 0))).setCell ⟨r, 1, none⟩ (.int .u16 (tab 1))).setCell ⟨r, 2, none⟩ (.int .u16 (tab 2))).setCell ⟨r, 3, none⟩ (.int .u16 (tab 3))).setCell ⟨r, 4, none⟩ (.int .u16 (tab 4))).setCell ⟨r, 5, none⟩ (.int .u16 (tab 5))).setCell ⟨r, 6, none⟩ (.int .u16 (tab 6))).setCell ⟨r, 7, none⟩ (.int .u16 (tab 7))).setCell ⟨r, 8, none⟩ (.int .u16 (tab 8))).setCell ⟨r, 9, none⟩ (.int .u16 (tab 9))).setCell ⟨r, 10, none⟩ (.int .u16 (tab 10))).setCell ⟨r, 11, none⟩ (.int .u16 (tab 11))).setCell ⟨r, 12, none⟩ (.int .u16 (tab 12))).setCell ⟨r, 13, none⟩ (.int .u16 (tab 13))).setCell ⟨r, 14, none⟩ (.int .u16 (tab 14))).setCell ⟨r, 15, none⟩ (.int .u16 (tab 15))).cell? ⟨r, 8, none⟩ = some (.int .u16 (tab 8)) := cell_at B16 8 rfl
      have he9 : ((((((((((((((((wr.setCell ⟨r, 0, none⟩ (.int .u16 (tab 0))).setCell ⟨r, 1, none⟩ (.int .u16 (tab 1))).setCell ⟨r, 2, none⟩ (.int .u16 (tab 2))).setCell ⟨r, 3, none⟩ (.int .u16 (tab 3))).setCell ⟨r, 4, none⟩ (.int .u16 (tab 4))).setCell ⟨r, 5, none⟩ (.int .u16 (tab 5))).setCell ⟨r, 6, none⟩ (.int .u16 (tab 6))).setCell ⟨r, 7, none⟩ (.int .u16 (tab 7))).setCell ⟨r, 8, none⟩ (.int .u16 (tab 8))).setCell ⟨r, 9, none⟩ (.int .u16 (tab 9))).setCell ⟨r, 10, none⟩ (.int .u16 (tab 10))).setCell ⟨r, 11, none⟩ (.int .u16 (tab 11))).setCell ⟨r, 12, none⟩ (.int .u16 (tab 12))).setCell ⟨r, 13, none⟩ (.int .u16 (tab 13))).setCell ⟨r, 14, none⟩ (.int .u16 (tab 14))).setCell ⟨r, 15, none⟩ (.int .u16 (tab 15))).cell? ⟨r, 9, none⟩ = some (.int .u16 (tab 9)) := cell_at B16 9 rfl
      have he10 : ((((((((((((((((wr.setCell ⟨r, 0, none⟩ (.int .u16 (tab 0))).setCell ⟨r, 1, none⟩ (.int .u16 (tab 1))).setCell ⟨r, 2, none⟩ (.int .u16 (tab 2))).setCell ⟨r, 3, none⟩ (.int .u16 (tab 3))).setCell ⟨r, 4, none⟩ (.int .u16 (tab 4))).setCell ⟨r, 5, none⟩ (.int .u16 (tab 5))).setCell ⟨r, 6, none⟩ (.int .u16 (tab 6))).setCell ⟨r, 7, none⟩ (.int .u16 (tab 7))).setCell ⟨r, 8, none⟩ (.int .u16 (tab 8))).setCell ⟨r, 9, none⟩ (.int .u16 (tab 9))).setCell ⟨r, 10, none⟩ (.int .u16 (tab 10))).setCell ⟨r, 11, none⟩ (.int .u16 (tab 11))).setCell ⟨r, 12, none⟩ (.int .u16 (tab 12))).setCell ⟨r, 13, none⟩ (.int .u16 (tab 13))).setCell ⟨r, 14, none⟩ (.int .u16 (tab 14))).setCell ⟨r, 15, none⟩ (.int .u16 (tab 15))).cell? ⟨r, 10, none⟩ = some (.int .u16 (tab 10)) := cell_at B16 10 rfl
      have he11 : ((((((((((((((((wr.setCell ⟨r, 0, none⟩ (.int .u16 (tab 0))).setCell ⟨r, 1, none⟩ (.int .u16 (tab 1))).setCell ⟨r, 2, none⟩ (.int .u16 (tab 2))).setCell ⟨r, 3, none⟩ (.int .u16 (tab 3))).setCell ⟨r, 4, none⟩ (.int .u16 (tab 4))).setCell ⟨r, 5, none⟩ (.int .u16 (tab 5))).setCell ⟨r, 6, none⟩ (.int .u16 (tab 6))).setCell ⟨r, 7, none⟩ (.int .u16 (tab 7))).setCell ⟨r, 8, none⟩ (.int .u16 (tab 8))).setCell ⟨r, 9, none⟩ (.int .u16 (tab 9))).setCell ⟨r, 10, none⟩ (.int .u16 (tab 10))).setCell ⟨r, 11, none⟩ (.int .u16 (tab 11))).setCell ⟨r, 12, none⟩ (.int .u16 (tab 12))).setCell ⟨r, 13, none⟩ (.int .u16 (tab 13))).setCell ⟨r, 14, none⟩ (.int .u16 (tab 14))).setCell ⟨r, 15, none⟩ (.int .u16 (tab 15))).cell? ⟨r, 11, none⟩ = some (.int .u16 (tab 11)) := cell_at B16 11 rfl
      have he12 : ((((((((((((((((wr.setCell ⟨r, 0, none⟩ (.int .u16 (tab 0))).setCell ⟨r, 1, none⟩ (.int .u16 (tab 1))).setCell ⟨r, 2, none⟩ (.int .u16 (tab 2))).setCell ⟨r, 3, none⟩ (.int .u16 (tab 3))).setCell ⟨r, 4, none⟩ (.int .u16 (tab 4))).setCell ⟨r, 5, none⟩ (.int .u16 (tab 5))).setCell ⟨r, 6, none⟩ (.int .u16 (tab 6))).setCell ⟨r, 7, none⟩ (.int .u16 (tab 7))).setCell ⟨r, 8, none⟩ (.int .u16 (tab 8))).setCell ⟨r, 9, none⟩ (.int .u16 (tab 9))).setCell ⟨r, 10, none⟩ (.int .u16 (tab 10))).setCell ⟨r, 11, none⟩ (.int .u16 (tab 11))).setCell ⟨r, 12, none⟩ (.int .u16 (tab 12))).setCell ⟨r, 13, none⟩ (.int .u16 (tab 13))).setCell ⟨r, 14, none⟩ (.int .u16 (tab 14))).setCell ⟨r, 15, none⟩ (.int .u16 (tab 15))).cell? ⟨r, 12, none⟩ = some (.int .u16 (tab 12)) := cell_at B16 12 rfl
      have he13 : ((((((((((((((((wr.setCell ⟨r, 0, none⟩ (.int .u16 (tab 0))).setCell ⟨r, 1, none⟩ (.int .u16 (tab 1))).setCell ⟨r, 2, none⟩ (.int .u16 (tab 2))).setCell ⟨r, 3, none⟩ (.int .u16 (tab 3))).setCell ⟨r, 4, none⟩ (.int .u16 (tab 4))).setCell ⟨r, 5, none⟩ (.int .u16 (tab 5))).setCell ⟨r, 6, none⟩ (.int .u16 (tab 6))).setCell ⟨r, 7, none⟩ (.int .u16 (tab 7))).setCell ⟨r, 8, none⟩ (.int .u16 (tab 8))).setCell ⟨r, 9, none⟩ (.int .u16 (tab 9))).setCell ⟨r, 10, none⟩ (.int .u16 (tab 10))).setCell ⟨r, 11, none⟩ (.int .u16 (tab 11))).setCell ⟨r, 12, none⟩ (.int .u16 (tab 12))).setCell ⟨r, 13, none⟩ (.int .u16 (tab 13))).setCell ⟨r, 14, none⟩ (.int .u16 (tab 14))).setCell ⟨r, 15, none⟩ (.int .u16 (tab 15))).cell? ⟨r, 13, none⟩ = some (.int .u16 (tab 13)) := cell_at B16 13 rfl
      have he14 : ((((((((((((((((wr.setCell ⟨r, 0, none⟩ (.int .u16 (tab 0))).setCell ⟨r, 1, none⟩ (.int .u16 (tab 1))).setCell ⟨r, 2, none⟩ (.int .u16 (tab 2))).setCell ⟨r, 3, none⟩ (.int .u16 (tab 3))).setCell ⟨r, 4, none⟩ (.int .u16 (tab 4))).setCell ⟨r, 5, none⟩ (.int .u16 (tab 5))).setCell ⟨r, 6, none⟩ (.int .u16 (tab 6))).setCell ⟨r, 7, none⟩ (.int .u16 (tab 7))).setCell ⟨r, 8, none⟩ (.int .u16 (tab 8))).setCell ⟨r, 9, none⟩ (.int .u16 (tab 9))).setCell ⟨r, 10, none⟩ (.int .u16 (tab 10))).setCell ⟨r, 11, none⟩ (.int .u16 (tab 11))).setCell ⟨r, 12, none⟩ (.int .u16 (tab 12))).setCell ⟨r, 13, none⟩ (.int .u16 (tab 13))).setCell ⟨r, 14, none⟩ (.int .u16 (tab 14))).setCell ⟨r, 15, none⟩ (.int .u16 (tab 15))).cell? ⟨r, 14, none⟩ = some (.int .u16 (tab 14)) := cell_at B16 14 rfl
      have he15 : ((((((((((((((((wr.setCell ⟨r, 0, none⟩ (.int .u16 (tab 0))).setCell ⟨r, 1, none⟩ (.int .u16 (tab 1))).setCell ⟨r, 2, none⟩ (.int .u16 (tab 2))).setCell ⟨r, 3, none⟩ (.int .u16 (tab 3))).setCell ⟨r, 4, none⟩ (.int .u16 (tab 4))).setCell ⟨r, 5, none⟩ (.int .u16 (tab 5))).setCell ⟨r, 6, none⟩ (.int .u16 (tab 6))).setCell ⟨r, 7, none⟩ (.int .u16 (tab 7))).setCell ⟨r, 8, none⟩ (.int .u16 (tab 8))).setCell ⟨r, 9, none⟩ (.int .u16 (tab 9))).setCell ⟨r, 10, none⟩ (.int .u16 (tab 10))).setCell ⟨r, 11, none⟩ (.int .u16 (tab 11))).setCell ⟨r, 12, none⟩ (.int .u16 (tab 12))).setCell ⟨r, 13, none⟩ (.int .u16 (tab 13))).setCell ⟨r, 14, none⟩ (.int .u16 (tab 14))).setCell ⟨r, 15, none⟩ (.int .u16 (tab 15))).cell? ⟨r, 15, none⟩ = some (.int .u16 (tab 15)) := cell_at B16 15 rfl
      have hO : Only (fun k => k = r) wr ((((((((((((((((wr.setCell ⟨r, 0, none⟩ (.int .u16 (tab 0))).setCell ⟨r, 1, none⟩ (.int .u16 (tab 1))).setCell ⟨r, 2, none⟩ (.int .u16 (tab 2))).setCell ⟨r, 3, none⟩ (.int .u16 (tab 3))).setCell ⟨r, 4, none⟩ (.int .u16 (tab 4))).setCell ⟨r, 5, none⟩ (.int .u16 (tab 5))).setCell ⟨r, 6, none⟩ (.int .u16 (tab 6))).setCell ⟨r, 7, none⟩ (.int .u16 (tab 7))).setCell ⟨r, 8, none⟩ (.int .u16 (tab 8))).setCell ⟨r, 9, none⟩ (.int .u16 (tab 9))).setCell ⟨r, 10, none⟩ (.int .u16 (tab 10))).setCell ⟨r, 11, none⟩ (.int .u16 (tab 11))).setCell ⟨r, 12, none⟩ (.int .u16 (tab 12))).setCell ⟨r, 13, none⟩ (.int .u16 (tab 13))).setCell ⟨r, 14, none⟩ (.int .u16 (tab 14))).setCell ⟨r, 15, none⟩ (.int .u16 (tab 15))) := ((((((((((((((((Only.refl (fun k => k = r) wr).setCell (.inl rfl) _).setCell (.inl rfl) _).setCell (.inl rfl) _).setCell (.inl rfl) _).setCell (.inl rfl) _).setCell (.inl rfl) _).setCell (.inl rfl) _).setCell (.inl rfl) _).setCell (.inl rfl) _).setCell (.inl rfl) _).setCell (.inl rfl) _).setCell (.inl rfl) _).setCell (.inl rfl) _).setCell (.inl rfl) _).setCell (.inl rfl) _).setCell (.inl rfl) _
      have HB16 := Lib.hid B16
      have HBL := Lib.hid (hO.below HBr.out HBr.out.size (fun k hk => by rw [hk, HRW.out]; exact Nat.le_refl _))
      clear B0 B1 B2 B3 B4 B5 B6 B7 B8 B9 B10 B11 B12 B13 B14 B15 B16 hO
      go_wp2
      (try simp only [Exit.inBlock, Exit.then])
      refine bodyPost_ret (results_cell_row rfl _ _ r 74 (cel16 (celN 16)) (0, 0) _ rfl HB16.out Try.underlying74 rfl (by kernel_rfl)) rfl ?_
      exact ⟨rfl, HBL.out⟩

end Go.Proofs.Ytbjepnneklnenaa.Crc

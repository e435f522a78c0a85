/- Wheel: New. -/
import Derived.Test.YtkjokpmlnnjmoaaWhA
import Derived.Laws.Tables
import Derived.Great.BuildSlice
set_option linter.unusedVariables false
set_option linter.unusedSimpArgs false
namespace Go.Proofs.Ytkjokpmlnnjmoaa.Wh
open Go.RowKit Go.Maps Go.Proofs.Ytkjokpmlnnjmoaa.Base Go.Proofs.Ytkjokpmlnnjmoaa.Rws Go.Proofs.YtkjokpmlnnjmoaaW.PrintWords Go.Proofs.YtkjokpmlnnjmoaaW.PrintMore
attribute [local go_sem] max2_mx min2_mn max_two min_two max_three min_three max_four min_four

/-- A new wheel's cells. -/
def newCells (n : Int) (b : Nat) : Array Value := (.int .i64 n :: .int .i64 0 :: (List.replicate 257 (.slice none 0 0) ++ [.map (some b)])).toArray

theorem new_built (n : Int) (b : Nat) : Try.prog.built 57 [(0, .int .i64 n), (4, .map (some b))] = some (newCells n b) := by
  kernel_rfl

theorem cells_any (m : Nat) (n : Int) (b : Nat) : ((.int .i64 n :: .int .i64 0 :: (List.replicate m (.slice none 0 0) ++ [.map (some b)])).toArray : Array Value).size = m + 3 ∧ (∀ i, i < m → ((.int .i64 n :: .int .i64 0 :: (List.replicate m (.slice none 0 0) ++ [.map (some b)])).toArray : Array Value)[2 + i]? = some (.slice none 0 0)) ∧ ((.int .i64 n :: .int .i64 0 :: (List.replicate m (.slice none 0 0) ++ [.map (some b)])).toArray : Array Value)[m + 2]? = some (.map (some b)) := by
  refine ⟨by simp, fun i hi => ?_, ?_⟩
  · rw [List.getElem?_toArray, show 2 + i = i + 1 + 1 by omega, List.getElem?_cons_succ, List.getElem?_cons_succ, List.getElem?_append_left (by simpa using hi), List.getElem?_replicate, if_pos hi]
  · rw [List.getElem?_toArray, show m + 2 = m + 1 + 1 from rfl, List.getElem?_cons_succ, List.getElem?_cons_succ, List.getElem?_append_right (by simp)]
    simp

theorem new_cells (n : Int) (b : Nat) : (newCells n b).size = 260 ∧ (newCells n b)[0]? = some (.int .i64 n) ∧ (newCells n b)[1]? = some (.int .i64 0) ∧ (∀ i, i < 257 → (newCells n b)[2 + i]? = some (.slice none 0 0)) ∧ (newCells n b)[259]? = some (.map (some b)) := by
  have h := cells_any 257 n b
  exact ⟨h.1, rfl, rfl, h.2.1, h.2.2⟩

/-- An empty map. -/
theorem TM.new (w : World) : TM (w.alloc (.map #[] 0)) w.heap.size [] := ⟨_, World.ownsMap_made w _ _ _, Holds.empty⟩

set_option maxRecDepth 100000 in
theorem new_p (x : Int) (w : World) : Calls Try.prog 10 #[.int .i64 x] w fun e w' => ∃ g b, e = .returned (.pointer (some ⟨g, 0, none⟩)) ∧ WS w' g b (fun k => k = g ∨ k = b) (cl x) 0 [] (fun _ => .slice none 0 0) (fun _ => []) ∧ w.heap.size ≤ g ∧ w.heap.size ≤ b ∧ Only (fun _ => False) w w' := by
  have HX : Hid (∀ w, Calls Try.prog 21 #[.int .i64 x] w fun e w' => e = .returned (.int .i64 (cl x)) ∧ w = w') := Lib.hid (fun w => clamp_p x w)
  obtain ⟨y, hy⟩ : ∃ y, y = cl x := ⟨_, rfl⟩
  rw [← hy] at HX ⊢
  clear hy
  obtain ⟨w1, hw1⟩ : ∃ w1, w1 = w.alloc (.map #[] 0) := ⟨_, rfl⟩
  obtain ⟨C, hC⟩ : ∃ C, C = newCells y w.heap.size := ⟨_, rfl⟩
  have HBU : Hid (Try.prog.built 57 [(0, .int .i64 y), (4, .map (some w.heap.size))] = some C) := Lib.hid (by rw [hC]; exact new_built _ _)
  have hm : (Instr.makeMap 53 none).run Try.prog w = .ok (.map (some w.heap.size)) w1 := by rw [hw1]; exact run_makeMap _ _
  have HC := Lib.hid hC
  have HW := Lib.hid hw1
  clear hC hw1
  go_enter Try.func10, Try.ntmps10
  go_wp2_with (first
    | (go_at_call 21; refine (HX.out _).mono ?_; rintro e w' ⟨rfl, rfl⟩)
    | (refine Go.wpList_buildTo rfl 57 #[(0, .tmp 4), (4, .tmp 5)] rfl (some 6) rfl C (Eq.trans (congrArg (fun l => Try.prog.built 57 l) (by kernel_rfl)) HBU.out) ?_))
  go_ret
  have hsz : w1.heap.size = w.heap.size + 1 := by rw [HW.out]; show (w.heap.push _).size = _; simp
  have hO1 : Only (fun _ => False) w w1 := by rw [HW.out]; exact (Only.refl _ w).alloc _
  have hO2 : Only (fun _ => False) w1 (w1.alloc (.cells C 57)) := (Only.refl _ w1).alloc _
  refine ⟨w1.heap.size, w.heap.size, rfl, ⟨⟨C, heap_alloc_new w1 _, ?_⟩, ?_, fun i hi => Row.nil _ _ _ _, fun i hi j hj hij k hk => ?_, .inl rfl, .inr rfl, fun k hk => ?_⟩, by omega, Nat.le_refl _, hO1.trans hO2⟩
  · rw [HC.out]
    exact new_cells y w.heap.size
  · refine TM.only ?_ hO2 (fun h => h)
    rw [HW.out]
    exact TM.new w
  · simp [Value.ownBlock] at hk
  · have h1 : (w1.alloc (.cells C 57)).heap.size = w1.heap.size + 1 := by show (w1.heap.push _).size = _; simp
    rcases hk with rfl | rfl <;> omega
end Go.Proofs.Ytkjokpmlnnjmoaa.Wh

/- Wheel: the closure that compares timers. -/
import Derived.Test.YtkjokpmlnnjmoaaWhB
import Derived.Test.YtkjokpmlnnjmoaaWhLb
import Derived.StillTailTactics
import Derived.Shelf.SlSortCmp.NoneTotal
set_option linter.unusedVariables false
set_option linter.unusedSimpArgs false
namespace Go.Proofs.Ytkjokpmlnnjmoaa.Wh
open Go.RowKit Go.Maps Go.Shelf Go.Lib Go.Sort Go.Proofs.Ytkjokpmlnnjmoaa.Base Go.Proofs.Ytkjokpmlnnjmoaa.Rws Go.Proofs.YtkjokpmlnnjmoaaW.PrintWords Go.Proofs.YtkjokpmlnnjmoaaW.PrintMore
attribute [local go_sem] max2_mx min2_mn max_two min_two max_three min_three max_four min_four

/-- cmp.Or of two. -/
theorem or_p (c1 c2 : Int) (W : World) (B : Nat) (h0 : W.cell? ⟨B, 0, none⟩ = some (.int .i64 c1)) (h1 : W.cell? ⟨B, 1, none⟩ = some (.int .i64 c2)) :
    Calls Try.prog 28 #[.slice (some ⟨B, 0, none⟩) 2 2] W fun e w' => e = .returned (.int .i64 (if c1 = 0 then c2 else c1)) ∧ W = w' := by
  by_cases e1 : c1 = 0
  · subst e1
    rw [if_pos rfl]
    by_cases e2 : c2 = 0
    · subst e2
      go_enter Try.func28, Try.ntmps28
      go_wp2
      refine wp_loop_rounds 3 ?_
      rw [rounds_succ]
      go_wp2
      rw [rounds_succ]
      go_wp2
      rw [rounds_succ]
      go_wp2
      go_ret
      exact ⟨rfl, rfl⟩
    · have hb : (c2 == 0) = false := by simpa using e2
      go_enter Try.func28, Try.ntmps28
      go_wp2
      refine wp_loop_rounds 2 ?_
      rw [rounds_succ]
      go_wp2
      rw [rounds_succ]
      go_wp2
      go_ret
      exact ⟨rfl, rfl⟩
  · rw [if_neg e1]
    have hb : (c1 == 0) = false := by simpa using e1
    go_enter Try.func28, Try.ntmps28
    go_wp2
    refine wp_loop_rounds 1 ?_
    rw [rounds_succ]
    go_wp2
    go_ret
    exact ⟨rfl, rfl⟩

set_option maxHeartbeats 4000000 in
set_option maxRecDepth 100000 in
theorem cmp_p (x y : Tm) (W : World) : Calls Try.prog 27 #[x.v, y.v] W fun e w' => e = .returned (.int .i64 (cfT x y)) ∧ ∃ q os', w' = grow (W.drewN q) os' := by
  obtain ⟨a, h, l, s⟩ := x
  obtain ⟨a', h', l', s'⟩ := y
  unfold Tm.v cfT
  simp only
  have HC1 := Lib.hid (Try.cmp_Compare_int a a')
  have HC2 := Lib.hid (Try.cmp_Compare_int h h')
  obtain ⟨c1, hc1⟩ : ∃ c1, c1 = Lib.compareInt a a' := ⟨_, rfl⟩
  obtain ⟨c2, hc2⟩ : ∃ c2, c2 = Lib.compareInt h h' := ⟨_, rfl⟩
  rw [← hc1] at HC1 ⊢
  rw [← hc2] at HC2 ⊢
  clear hc1 hc2
  obtain ⟨w1, hw1⟩ : ∃ w1, w1 = W.alloc (.cells #[.int .i64 a, .int .i64 h, .int .i64 l, .int .i64 s] 60) := ⟨_, rfl⟩
  obtain ⟨w2, hw2⟩ : ∃ w2, w2 = w1.alloc (.cells #[.int .i64 a', .int .i64 h', .int .i64 l', .int .i64 s'] 60) := ⟨_, rfl⟩
  obtain ⟨N, hN⟩ : ∃ N, N = W.heap.size := ⟨_, rfl⟩
  have hN1 : w1.heap.size = N + 1 := by rw [hw1, hN]; show (W.heap.push _).size = _; simp
  have hk1 : w1.heap[N]? = some (.cells #[.int .i64 a, .int .i64 h, .int .i64 l, .int .i64 s] 60 (0, 0)) := by rw [hw1, hN]; exact heap_alloc_new W _
  have hk2 : w2.heap[N]? = some (.cells #[.int .i64 a, .int .i64 h, .int .i64 l, .int .i64 s] 60 (0, 0)) := by rw [hw2]; exact (heap_alloc_old w1 _ (by omega)).trans hk1
  have hk3 : w2.heap[N + 1]? = some (.cells #[.int .i64 a', .int .i64 h', .int .i64 l', .int .i64 s'] 60 (0, 0)) := by rw [hw2, ← hN1]; exact heap_alloc_new w1 _
  have HN2 : Hid (w2.heap.size = N + 1 + 1) := by rw [hw2, ← hN1]; exact Lib.hid (by show (w1.heap.push _).size = _; simp)
  have HW : Hid (w2 = (W.alloc (.cells #[.int .i64 a, .int .i64 h, .int .i64 l, .int .i64 s] 60)).alloc (.cells #[.int .i64 a', .int .i64 h', .int .i64 l', .int .i64 s'] 60)) := Lib.hid (by rw [hw2, hw1])
  have y0 : w2.cell? ⟨N, 0, none⟩ = some (.int .i64 a) := cell_at hk2 0 rfl
  have y1 : w2.cell? ⟨N, 1, none⟩ = some (.int .i64 h) := cell_at hk2 1 rfl
  have y2 : w2.cell? ⟨N + 1, 0, none⟩ = some (.int .i64 a') := cell_at hk3 0 rfl
  have y3 : w2.cell? ⟨N + 1, 1, none⟩ = some (.int .i64 h') := cell_at hk3 1 rfl
  have HOR : Hid (Calls Try.prog 28 #[.slice (some ⟨w2.drew.heap.size, 0, none⟩) 2 2] (w2.drew.alloc (.cells #[.int .i64 c1, .int .i64 c2] 3)) fun e w' => e = .returned (.int .i64 (if c1 = 0 then c2 else c1)) ∧ (w2.drew.alloc (.cells #[.int .i64 c1, .int .i64 c2] 3)) = w') :=
    Lib.hid (or_p c1 c2 _ _ (cell_at (w := (w2.drew.alloc (.cells #[.int .i64 c1, .int .i64 c2] 3))) (heap_alloc_new w2.drew _) 0 rfl) (cell_at (w := (w2.drew.alloc (.cells #[.int .i64 c1, .int .i64 c2] 3))) (heap_alloc_new w2.drew _) 1 rfl))
  obtain ⟨cc, hcc⟩ : ∃ cc, cc = if c1 = 0 then c2 else c1 := ⟨_, rfl⟩
  rw [← hcc] at HOR ⊢
  clear hcc
  clear hk1 hk2 hk3 hN1
  go_enter Try.func27, Try.ntmps27
  go_wp2_with fail
  rw [← hw1, ← hw2, ← hN]
  clear hw1 hw2 hN
  go_still_tail 10, (by kernel_rfl)
  still_call (HC1.out _)
  repeat still_step
  still_call (HC2.out _)
  repeat still_step
  try refine wpStill_nil ?_
  change wpList _ _ _ _ _ w2.drew
  go_wp2_with (go_at_call 28; refine HOR.out.mono ?_; rintro e w' ⟨rfl, rfl⟩)
  go_ret
  refine ⟨rfl, 1, #[.cells #[.int .i64 a, .int .i64 h, .int .i64 l, .int .i64 s] 60, .cells #[.int .i64 a', .int .i64 h', .int .i64 l', .int .i64 s'] 60, .cells #[.int .i64 c1, .int .i64 c2] 3], ?_⟩
  rw [HW.out]
  rfl

theorem ltOf_T : ltOf cfT = ltT := rfl

end Go.Proofs.Ytkjokpmlnnjmoaa.Wh

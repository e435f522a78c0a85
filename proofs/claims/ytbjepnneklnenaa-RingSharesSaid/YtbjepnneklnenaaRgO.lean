/- Ring: points compared. -/
import Derived.Test.YtbjepnneklnenaaRgN
import Derived.Deep.RegionHeld3
set_option linter.unusedVariables false
set_option linter.unusedSimpArgs false
set_option maxRecDepth 100000
namespace Go.Proofs.Ytbjepnneklnenaa.Rg
open Go.RowKit Go.Maps Go.Shelf Go.Lib Go.Sort Go.Proofs.Ytbjepnneklnenaa.Base Go.Proofs.Ytbjepnneklnenaa.Rws Go.Proofs.YtbjepnneklnenaaW.PrintWords Go.Proofs.YtbjepnneklnenaaW.PrintMore
attribute [local go_sem] max2_mx min2_mn max_two min_two max_three min_three max_four min_four

theorem nan_p (x : Int) (w : World) : Calls Try.prog 54 #[.int .u16 x] w fun e w' => e = .returned (.bool false) ∧ w = w' := by
  go_enter Try.func54, Try.ntmps54
  go_wp2
  go_ret
  exact ⟨by simp, rfl⟩

theorem cmp16_p (x y : Int) (w : World) : Calls Try.prog 37 #[.int .u16 x, .int .u16 y] w fun e w' => e = .returned (.int .i64 (Lib.compareInt x y)) ∧ w = w' := by
  have HX := Lib.hid (nan_p x w)
  have HY := Lib.hid (nan_p y w)
  rcases cI_cases x y with ⟨h, he⟩ | ⟨h, he⟩ | ⟨h, he⟩
  · rw [he]
    clear he
    go_enter Try.func37, Try.ntmps37
    go_wp2_with (go_at_call 54; (first | (with_reducible refine HX.out.mono ?_) | (with_reducible refine HY.out.mono ?_)); rintro e w' ⟨rfl, rfl⟩)
    go_ret
    exact ⟨rfl, rfl⟩
  · rw [he]
    clear he
    have h2 : ¬ x < y := by omega
    go_enter Try.func37, Try.ntmps37
    go_wp2_with (go_at_call 54; (first | (with_reducible refine HX.out.mono ?_) | (with_reducible refine HY.out.mono ?_)); rintro e w' ⟨rfl, rfl⟩)
    go_ret
    exact ⟨rfl, rfl⟩
  · rw [he]
    clear he
    subst h
    clear HY
    have h2 : ¬ x < x := by omega
    go_enter Try.func37, Try.ntmps37
    go_wp2_with (go_at_call 54; refine HX.out.mono ?_; rintro e w' ⟨rfl, rfl⟩)
    go_ret
    exact ⟨rfl, rfl⟩

theorem cmp16_q (x y : Int) (w : World) : Calls Try.prog 37 #[.int .u16 x, .int .u16 y] w fun e w' => e = .returned (.int .i64 (Lib.compareInt x y)) ∧ w' = w :=
  (cmp16_p x y w).mono (fun e w' h => ⟨h.1, h.2.symm⟩)

/-- cmp.Or of three. -/
theorem or3_p (c1 c2 c3 : Int) (W : World) (B : Nat) (h0 : W.cell? ⟨B, 0, none⟩ = some (.int .i64 c1)) (h1 : W.cell? ⟨B, 1, none⟩ = some (.int .i64 c2)) (h2 : W.cell? ⟨B, 2, none⟩ = some (.int .i64 c3)) :
    Calls Try.prog 36 #[.slice (some ⟨B, 0, none⟩) 3 3] W fun e w' => e = .returned (.int .i64 (if c1 = 0 then (if c2 = 0 then c3 else c2) else c1)) ∧ W = w' := by
  by_cases e1 : c1 = 0
  · subst e1
    rw [if_pos rfl]
    by_cases e2 : c2 = 0
    · subst e2
      rw [if_pos rfl]
      by_cases e3 : c3 = 0
      · subst e3
        go_enter Try.func36, Try.ntmps36
        go_wp2
        refine wp_loop_rounds 4 ?_
        rw [rounds_succ]
        go_wp2
        rw [rounds_succ]
        go_wp2
        rw [rounds_succ]
        go_wp2
        rw [rounds_succ]
        go_wp2
        go_ret
        exact ⟨rfl, rfl⟩
      · have hb : (c3 == 0) = false := by simpa using e3
        go_enter Try.func36, Try.ntmps36
        go_wp2
        refine wp_loop_rounds 3 ?_
        rw [rounds_succ]
        go_wp2
        rw [rounds_succ]
        go_wp2
        rw [rounds_succ]
        go_wp2
        go_ret
        exact ⟨rfl, rfl⟩
    · rw [if_neg e2]
      have hb : (c2 == 0) = false := by simpa using e2
      go_enter Try.func36, Try.ntmps36
      go_wp2
      refine wp_loop_rounds 2 ?_
      rw [rounds_succ]
      go_wp2
      rw [rounds_succ]
      go_wp2
      go_ret
      exact ⟨rfl, rfl⟩
  · rw [if_neg e1]
    have hb : (c1 == 0) = false := by simpa using e1
    go_enter Try.func36, Try.ntmps36
    go_wp2
    refine wp_loop_rounds 1 ?_
    rw [rounds_succ]
    go_wp2
    go_ret
    exact ⟨rfl, rfl⟩

def CmpPost (c : Int) (W : World) (e : Ending) (w' : World) : Prop := e = .returned (.int .i64 c) ∧ ∃ q os', w' = grow (W.drewN q) os'

set_option maxHeartbeats 4000000 in
theorem cmpP_p (x y : Pt) (W : World) : Calls Try.prog 24 #[.agg #[.int .u16 x.a, .int .i64 x.m, .int .i64 x.n], .agg #[.int .u16 y.a, .int .i64 y.m, .int .i64 y.n]] W (CmpPost (cfP x y) W) := by
  obtain ⟨a, b, c⟩ := x
  obtain ⟨a', b', c'⟩ := y
  unfold cfP
  simp only
  have HC1 := Lib.hid (cmp16_q a a')
  have HC2 := Lib.hid (Try.cmp_Compare_int b b')
  have HC3 := Lib.hid (Try.cmp_Compare_int c c')
  obtain ⟨c1, hc1⟩ : ∃ c1, c1 = Lib.compareInt a a' := ⟨_, rfl⟩
  obtain ⟨c2, hc2⟩ : ∃ c2, c2 = Lib.compareInt b b' := ⟨_, rfl⟩
  obtain ⟨c3, hc3⟩ : ∃ c3, c3 = Lib.compareInt c c' := ⟨_, rfl⟩
  rw [← hc1] at HC1 ⊢
  rw [← hc2] at HC2 ⊢
  rw [← hc3] at HC3 ⊢
  clear hc1 hc2 hc3
  obtain ⟨w1, hw1⟩ : ∃ w1, w1 = W.alloc (.cells #[.int .u16 a, .int .i64 b, .int .i64 c] 56) := ⟨_, rfl⟩
  obtain ⟨w2, hw2⟩ : ∃ w2, w2 = w1.alloc (.cells #[.int .u16 a', .int .i64 b', .int .i64 c'] 56) := ⟨_, rfl⟩
  obtain ⟨N, hN⟩ : ∃ N, N = W.heap.size := ⟨_, rfl⟩
  have hN1 : w1.heap.size = N + 1 := by rw [hw1, hN]; show (W.heap.push _).size = _; simp
  have hk1 : w1.heap[N]? = some (.cells #[.int .u16 a, .int .i64 b, .int .i64 c] 56 (0, 0)) := by rw [hw1, hN]; exact heap_alloc_new W _
  have hk2 : w2.heap[N]? = some (.cells #[.int .u16 a, .int .i64 b, .int .i64 c] 56 (0, 0)) := by rw [hw2]; exact (heap_alloc_old w1 _ _ (by omega)).trans hk1
  have hk3 : w2.heap[N + 1]? = some (.cells #[.int .u16 a', .int .i64 b', .int .i64 c'] 56 (0, 0)) := by rw [hw2, ← hN1]; exact heap_alloc_new w1 _
  have HN2 : Hid (w2.heap.size = N + 1 + 1) := by rw [hw2, ← hN1]; exact Lib.hid (by show (w1.heap.push _).size = _; simp)
  have HW : Hid (w2 = (W.alloc (.cells #[.int .u16 a, .int .i64 b, .int .i64 c] 56)).alloc (.cells #[.int .u16 a', .int .i64 b', .int .i64 c'] 56)) := Lib.hid (by rw [hw2, hw1])
  have y0 : w2.cell? ⟨N, 0, none⟩ = some (.int .u16 a) := cell_at hk2 0 rfl
  have y1 : w2.cell? ⟨N, 1, none⟩ = some (.int .i64 b) := cell_at hk2 1 rfl
  have y2 : w2.cell? ⟨N, 2, none⟩ = some (.int .i64 c) := cell_at hk2 2 rfl
  have z0 : w2.cell? ⟨N + 1, 0, none⟩ = some (.int .u16 a') := cell_at hk3 0 rfl
  have z1 : w2.cell? ⟨N + 1, 1, none⟩ = some (.int .i64 b') := cell_at hk3 1 rfl
  have z2 : w2.cell? ⟨N + 1, 2, none⟩ = some (.int .i64 c') := cell_at hk3 2 rfl
  have HOR : Hid (Calls Try.prog 36 #[.slice (some ⟨w2.drew.heap.size, 0, none⟩) 3 3] (w2.drew.alloc (.cells #[.int .i64 c1, .int .i64 c2, .int .i64 c3] 3)) fun e w' => e = .returned (.int .i64 (if c1 = 0 then (if c2 = 0 then c3 else c2) else c1)) ∧ (w2.drew.alloc (.cells #[.int .i64 c1, .int .i64 c2, .int .i64 c3] 3)) = w') :=
    Lib.hid (or3_p c1 c2 c3 _ _ (cell_at (heap_alloc_new w2.drew (.cells #[.int .i64 c1, .int .i64 c2, .int .i64 c3] 3)) 0 rfl) (cell_at (heap_alloc_new w2.drew (.cells #[.int .i64 c1, .int .i64 c2, .int .i64 c3] 3)) 1 rfl) (cell_at (heap_alloc_new w2.drew (.cells #[.int .i64 c1, .int .i64 c2, .int .i64 c3] 3)) 2 rfl))
  obtain ⟨cc, hcc⟩ : ∃ cc, cc = if c1 = 0 then (if c2 = 0 then c3 else c2) else c1 := ⟨_, rfl⟩
  rw [← hcc] at HOR ⊢
  clear hcc hk1 hk2 hk3 hN1
  go_enter Try.func24, Try.ntmps24
  go_wp2_with fail
  rw [← hw1, ← hw2, ← hN]
  clear hw1 hw2 hN
  go_still_tail 15, (by kernel_rfl)
  still_call (HC1.out _)
  repeat still_step
  still_call (HC2.out _)
  repeat still_step
  still_call (HC3.out _)
  repeat still_step
  try refine wpStill_nil ?_
  change wpList _ _ _ _ _ w2.drew
  go_wp2_with (go_at_call 36; refine HOR.out.mono ?_; rintro e w' ⟨rfl, rfl⟩)
  go_ret
  refine ⟨rfl, 1, #[.cells #[.int .u16 a, .int .i64 b, .int .i64 c] 56, .cells #[.int .u16 a', .int .i64 b', .int .i64 c'] 56, .cells #[.int .i64 c1, .int .i64 c2, .int .i64 c3] 3], ?_⟩
  rw [HW.out]
  rfl
end Go.Proofs.Ytbjepnneklnenaa.Rg

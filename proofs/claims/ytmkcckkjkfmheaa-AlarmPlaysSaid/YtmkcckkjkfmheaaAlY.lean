/- Alarm: keys compared. -/
import Derived.Test.YtmkcckkjkfmheaaAlO
set_option linter.unusedVariables false
set_option linter.unusedSimpArgs false
set_option maxRecDepth 100000
namespace Go.Proofs.Ytmkcckkjkfmheaa.Al
open Go.RowKit Go.Maps Go.Shelf Go.Lib Go.Sort Go.Proofs.Ytmkcckkjkfmheaa.Base Go.Proofs.Ytmkcckkjkfmheaa.Rws Go.Proofs.Ytmkcckkjkfmheaa.Wh Go.Proofs.YtmkcckkjkfmheaaW.PrintWords Go.Proofs.YtmkcckkjkfmheaaW.PrintMore
attribute [local go_sem] max2_mx min2_mn max_two min_two max_three min_three max_four min_four

theorem grow_blk {W : World} {q : Nat} {os : Array Obj} {i : Nat} {o : Obj} (h : W.heap[i]? = some o) : (grow (W.drewN q) os).heap[i]? = some o := by
  have hi : i < W.heap.size := by rw [Array.getElem?_eq_some_iff] at h; exact h.1
  show (W.heap ++ os)[i]? = _
  rw [Array.getElem?_append_left hi]
  exact h

theorem grow_after (W : World) (A B C : Obj) (q : Nat) (os : Array Obj) : (grow (((W.alloc A).alloc B).drew.drewN q) os).alloc C = grow (W.drewN (1 + q)) (#[A, B] ++ os ++ #[C]) := by
  have h1 : (((W.heap.push A).push B) ++ os).push C = W.heap ++ (#[A, B] ++ os ++ #[C]) := by
    apply Array.ext'
    simp
  have h2 : W.drawn + 1 + q = W.drawn + (1 + q) := Nat.add_assoc _ _ _
  show ({ W with heap := (((W.heap.push A).push B) ++ os).push C, drawn := W.drawn + 1 + q } : World) = { W with heap := W.heap ++ (#[A, B] ++ os ++ #[C]), drawn := W.drawn + (1 + q) }
  rw [h1, h2]

set_option maxHeartbeats 4000000 in
theorem cmpY_p (x y : K5) (W : World) : Calls Try.prog 34 #[.agg #[.int .i64 x.a, .int .i64 x.b, .int .i64 x.c, .int .i64 x.d], .agg #[.int .i64 y.a, .int .i64 y.b, .int .i64 y.c, .int .i64 y.d]] W (CmpPost (cfY x y) W) := by
  have HD := Lib.hid (fun W => cmpD_p x y W)
  unfold cfY
  obtain ⟨c1, hc1⟩ : ∃ c1, c1 = cfD x y := ⟨_, rfl⟩
  rw [← hc1] at HD ⊢
  clear hc1
  obtain ⟨a, b, c, d, e⟩ := x
  obtain ⟨a', b', c', d', e'⟩ := y
  simp only at HD ⊢
  have HC2 := Lib.hid (Try.cmp_Compare_int d d')
  obtain ⟨c2, hc2⟩ : ∃ c2, c2 = Lib.compareInt d d' := ⟨_, rfl⟩
  rw [← hc2] at HC2 ⊢
  clear hc2
  obtain ⟨cc, hcc⟩ : ∃ cc, cc = if c1 = 0 then c2 else c1 := ⟨_, rfl⟩
  have HOR : Hid (∀ W : World, Calls Try.prog 33 #[.slice (some ⟨W.heap.size, 0, none⟩) 2 2] (W.alloc (.cells #[.int .i64 c1, .int .i64 c2] 3)) fun e w' => e = .returned (.int .i64 cc) ∧ (W.alloc (.cells #[.int .i64 c1, .int .i64 c2] 3)) = w') :=
    Lib.hid (fun W => by rw [hcc]; exact or_p c1 c2 _ _ (cell_at (heap_alloc_new W (.cells #[.int .i64 c1, .int .i64 c2] 3)) 0 rfl) (cell_at (heap_alloc_new W (.cells #[.int .i64 c1, .int .i64 c2] 3)) 1 rfl))
  rw [← hcc]
  clear hcc
  obtain ⟨w1, hw1⟩ : ∃ w1, w1 = W.alloc (.cells #[.int .i64 a, .int .i64 b, .int .i64 c, .int .i64 d] 25) := ⟨_, rfl⟩
  obtain ⟨w2, hw2⟩ : ∃ w2, w2 = w1.alloc (.cells #[.int .i64 a', .int .i64 b', .int .i64 c', .int .i64 d'] 25) := ⟨_, rfl⟩
  obtain ⟨N, hN⟩ : ∃ N, N = W.heap.size := ⟨_, rfl⟩
  have hN1 : w1.heap.size = N + 1 := by rw [hw1, hN]; show (W.heap.push _).size = _; simp
  have hk1 : w1.heap[N]? = some (.cells #[.int .i64 a, .int .i64 b, .int .i64 c, .int .i64 d] 25 (0, 0)) := by rw [hw1, hN]; exact heap_alloc_new W _
  have hk2 : w2.heap[N]? = some (.cells #[.int .i64 a, .int .i64 b, .int .i64 c, .int .i64 d] 25 (0, 0)) := by rw [hw2]; exact (heap_alloc_old w1 _ (by omega)).trans hk1
  have hk3 : w2.heap[N + 1]? = some (.cells #[.int .i64 a', .int .i64 b', .int .i64 c', .int .i64 d'] 25 (0, 0)) := by rw [hw2, ← hN1]; exact heap_alloc_new w1 _
  have HW : Hid (w2 = (W.alloc (.cells #[.int .i64 a, .int .i64 b, .int .i64 c, .int .i64 d] 25)).alloc (.cells #[.int .i64 a', .int .i64 b', .int .i64 c', .int .i64 d'] 25)) := Lib.hid (by rw [hw2, hw1])
  have hkk : ∀ V : World, V.heap[N]? = some (.cells #[.int .i64 a, .int .i64 b, .int .i64 c, .int .i64 d] 25 (0, 0)) → V.heap[N + 1]? = some (.cells #[.int .i64 a', .int .i64 b', .int .i64 c', .int .i64 d'] 25 (0, 0)) →
      V.cell? ⟨N, 0, none⟩ = some (.int .i64 a) ∧ V.cell? ⟨N, 1, none⟩ = some (.int .i64 b) ∧ V.cell? ⟨N, 2, none⟩ = some (.int .i64 c) ∧ V.cell? ⟨N, 3, none⟩ = some (.int .i64 d) ∧ V.cell? ⟨N + 1, 0, none⟩ = some (.int .i64 a') ∧ V.cell? ⟨N + 1, 1, none⟩ = some (.int .i64 b') ∧ V.cell? ⟨N + 1, 2, none⟩ = some (.int .i64 c') ∧ V.cell? ⟨N + 1, 3, none⟩ = some (.int .i64 d') :=
    fun V h1 h2 => ⟨cell_at h1 0 rfl, cell_at h1 1 rfl, cell_at h1 2 rfl, cell_at h1 3 rfl, cell_at h2 0 rfl, cell_at h2 1 rfl, cell_at h2 2 rfl, cell_at h2 3 rfl⟩
  have HKK := Lib.hid hkk
  have k0 := hkk w2 hk2 hk3
  have HK2 := Lib.hid hk2
  have HK3 := Lib.hid hk3
  clear hk1 hk2 hk3 hN1 hkk
  go_enter Try.func34, Try.ntmps34
  go_wp2_with fail
  rw [← hw1, ← hw2, ← hN]
  clear hw1 hw2 hN
  go_region_held3 (fun V => V.cell? ⟨N, 0, none⟩ = some (.int .i64 a) ∧ V.cell? ⟨N, 1, none⟩ = some (.int .i64 b) ∧ V.cell? ⟨N, 2, none⟩ = some (.int .i64 c) ∧ V.cell? ⟨N, 3, none⟩ = some (.int .i64 d) ∧ V.cell? ⟨N + 1, 0, none⟩ = some (.int .i64 a') ∧ V.cell? ⟨N + 1, 1, none⟩ = some (.int .i64 b') ∧ V.cell? ⟨N + 1, 2, none⟩ = some (.int .i64 c') ∧ V.cell? ⟨N + 1, 3, none⟩ = some (.int .i64 d')) (first | exact k0 | exact k1 | exact k2) (first
    | (go_at_call 52; refine (HD.out _).mono ?_; rintro e w3 ⟨rfl, q3, os3, hw3⟩; have k1 := HKK.out w3 (by rw [hw3]; exact grow_blk (W := w2.drew) HK2.out) (by rw [hw3]; exact grow_blk (W := w2.drew) HK3.out); have k2 := HKK.out (w3.alloc (.cells #[.int .i64 c1, .int .i64 c2] 3)) ((heap_alloc_old w3 _ (blk_lt (show w3.heap[N]? = _ by rw [hw3]; exact grow_blk (W := w2.drew) HK2.out))).trans (by rw [hw3]; exact grow_blk (W := w2.drew) HK2.out)) ((heap_alloc_old w3 _ (blk_lt (show w3.heap[N + 1]? = _ by rw [hw3]; exact grow_blk (W := w2.drew) HK3.out))).trans (by rw [hw3]; exact grow_blk (W := w2.drew) HK3.out)); have HW3 := Lib.hid hw3; clear hw3)
    | (go_at_call 35; refine (HC2.out _).mono ?_; rintro e w' ⟨rfl, rfl⟩)
    | (go_at_call 33; refine (HOR.out _).mono ?_; rintro e w' ⟨rfl, rfl⟩))
  go_wp2
  go_ret
  refine ⟨rfl, 1 + q3, #[.cells #[.int .i64 a, .int .i64 b, .int .i64 c, .int .i64 d] 25, .cells #[.int .i64 a', .int .i64 b', .int .i64 c', .int .i64 d'] 25] ++ os3 ++ #[.cells #[.int .i64 c1, .int .i64 c2] 3], ?_⟩
  rw [HW3.out, HW.out]
  exact grow_after _ _ _ _ _ _

set_option maxHeartbeats 4000000 in
theorem cmpN_p (x y : K5) (W : World) : Calls Try.prog 18 #[.agg #[.int .i64 x.a, .int .i64 x.b, .int .i64 x.c, .int .i64 x.d, .int .i64 x.e], .agg #[.int .i64 y.a, .int .i64 y.b, .int .i64 y.c, .int .i64 y.d, .int .i64 y.e]] W (CmpPost (cfN x y) W) := by
  have HD := Lib.hid (fun W => cmpY_p x y W)
  unfold cfN
  obtain ⟨c1, hc1⟩ : ∃ c1, c1 = cfY x y := ⟨_, rfl⟩
  rw [← hc1] at HD ⊢
  clear hc1
  obtain ⟨a, b, c, d, e⟩ := x
  obtain ⟨a', b', c', d', e'⟩ := y
  simp only at HD ⊢
  have HC2 := Lib.hid (Try.cmp_Compare_int e e')
  obtain ⟨c2, hc2⟩ : ∃ c2, c2 = Lib.compareInt e e' := ⟨_, rfl⟩
  rw [← hc2] at HC2 ⊢
  clear hc2
  obtain ⟨cc, hcc⟩ : ∃ cc, cc = if c1 = 0 then c2 else c1 := ⟨_, rfl⟩
  have HOR : Hid (∀ W : World, Calls Try.prog 33 #[.slice (some ⟨W.heap.size, 0, none⟩) 2 2] (W.alloc (.cells #[.int .i64 c1, .int .i64 c2] 3)) fun e w' => e = .returned (.int .i64 cc) ∧ (W.alloc (.cells #[.int .i64 c1, .int .i64 c2] 3)) = w') :=
    Lib.hid (fun W => by rw [hcc]; exact or_p c1 c2 _ _ (cell_at (heap_alloc_new W (.cells #[.int .i64 c1, .int .i64 c2] 3)) 0 rfl) (cell_at (heap_alloc_new W (.cells #[.int .i64 c1, .int .i64 c2] 3)) 1 rfl))
  rw [← hcc]
  clear hcc
  obtain ⟨w1, hw1⟩ : ∃ w1, w1 = W.alloc (.cells #[.int .i64 a, .int .i64 b, .int .i64 c, .int .i64 d, .int .i64 e] 33) := ⟨_, rfl⟩
  obtain ⟨w2, hw2⟩ : ∃ w2, w2 = w1.alloc (.cells #[.int .i64 a', .int .i64 b', .int .i64 c', .int .i64 d', .int .i64 e'] 33) := ⟨_, rfl⟩
  obtain ⟨N, hN⟩ : ∃ N, N = W.heap.size := ⟨_, rfl⟩
  have hN1 : w1.heap.size = N + 1 := by rw [hw1, hN]; show (W.heap.push _).size = _; simp
  have hk1 : w1.heap[N]? = some (.cells #[.int .i64 a, .int .i64 b, .int .i64 c, .int .i64 d, .int .i64 e] 33 (0, 0)) := by rw [hw1, hN]; exact heap_alloc_new W _
  have hk2 : w2.heap[N]? = some (.cells #[.int .i64 a, .int .i64 b, .int .i64 c, .int .i64 d, .int .i64 e] 33 (0, 0)) := by rw [hw2]; exact (heap_alloc_old w1 _ (by omega)).trans hk1
  have hk3 : w2.heap[N + 1]? = some (.cells #[.int .i64 a', .int .i64 b', .int .i64 c', .int .i64 d', .int .i64 e'] 33 (0, 0)) := by rw [hw2, ← hN1]; exact heap_alloc_new w1 _
  have HW : Hid (w2 = (W.alloc (.cells #[.int .i64 a, .int .i64 b, .int .i64 c, .int .i64 d, .int .i64 e] 33)).alloc (.cells #[.int .i64 a', .int .i64 b', .int .i64 c', .int .i64 d', .int .i64 e'] 33)) := Lib.hid (by rw [hw2, hw1])
  have hkk : ∀ V : World, V.heap[N]? = some (.cells #[.int .i64 a, .int .i64 b, .int .i64 c, .int .i64 d, .int .i64 e] 33 (0, 0)) → V.heap[N + 1]? = some (.cells #[.int .i64 a', .int .i64 b', .int .i64 c', .int .i64 d', .int .i64 e'] 33 (0, 0)) →
      V.cell? ⟨N, 0, none⟩ = some (.int .i64 a) ∧ V.cell? ⟨N, 1, none⟩ = some (.int .i64 b) ∧ V.cell? ⟨N, 2, none⟩ = some (.int .i64 c) ∧ V.cell? ⟨N, 3, none⟩ = some (.int .i64 d) ∧ V.cell? ⟨N, 4, none⟩ = some (.int .i64 e) ∧ V.cell? ⟨N + 1, 0, none⟩ = some (.int .i64 a') ∧ V.cell? ⟨N + 1, 1, none⟩ = some (.int .i64 b') ∧ V.cell? ⟨N + 1, 2, none⟩ = some (.int .i64 c') ∧ V.cell? ⟨N + 1, 3, none⟩ = some (.int .i64 d') ∧ V.cell? ⟨N + 1, 4, none⟩ = some (.int .i64 e') :=
    fun V h1 h2 => ⟨cell_at h1 0 rfl, cell_at h1 1 rfl, cell_at h1 2 rfl, cell_at h1 3 rfl, cell_at h1 4 rfl, cell_at h2 0 rfl, cell_at h2 1 rfl, cell_at h2 2 rfl, cell_at h2 3 rfl, cell_at h2 4 rfl⟩
  have HKK := Lib.hid hkk
  have k0 := hkk w2 hk2 hk3
  have HK2 := Lib.hid hk2
  have HK3 := Lib.hid hk3
  clear hk1 hk2 hk3 hN1 hkk
  go_enter Try.func18, Try.ntmps18
  go_wp2_with fail
  rw [← hw1, ← hw2, ← hN]
  clear hw1 hw2 hN
  go_region_held3 (fun V => V.cell? ⟨N, 0, none⟩ = some (.int .i64 a) ∧ V.cell? ⟨N, 1, none⟩ = some (.int .i64 b) ∧ V.cell? ⟨N, 2, none⟩ = some (.int .i64 c) ∧ V.cell? ⟨N, 3, none⟩ = some (.int .i64 d) ∧ V.cell? ⟨N, 4, none⟩ = some (.int .i64 e) ∧ V.cell? ⟨N + 1, 0, none⟩ = some (.int .i64 a') ∧ V.cell? ⟨N + 1, 1, none⟩ = some (.int .i64 b') ∧ V.cell? ⟨N + 1, 2, none⟩ = some (.int .i64 c') ∧ V.cell? ⟨N + 1, 3, none⟩ = some (.int .i64 d') ∧ V.cell? ⟨N + 1, 4, none⟩ = some (.int .i64 e')) (first | exact k0 | exact k1 | exact k2) (first
    | (go_at_call 34; refine (HD.out _).mono ?_; rintro e w3 ⟨rfl, q3, os3, hw3⟩; have k1 := HKK.out w3 (by rw [hw3]; exact grow_blk (W := w2.drew) HK2.out) (by rw [hw3]; exact grow_blk (W := w2.drew) HK3.out); have k2 := HKK.out (w3.alloc (.cells #[.int .i64 c1, .int .i64 c2] 3)) ((heap_alloc_old w3 _ (blk_lt (show w3.heap[N]? = _ by rw [hw3]; exact grow_blk (W := w2.drew) HK2.out))).trans (by rw [hw3]; exact grow_blk (W := w2.drew) HK2.out)) ((heap_alloc_old w3 _ (blk_lt (show w3.heap[N + 1]? = _ by rw [hw3]; exact grow_blk (W := w2.drew) HK3.out))).trans (by rw [hw3]; exact grow_blk (W := w2.drew) HK3.out)); have HW3 := Lib.hid hw3; clear hw3)
    | (go_at_call 35; refine (HC2.out _).mono ?_; rintro e w' ⟨rfl, rfl⟩)
    | (go_at_call 33; refine (HOR.out _).mono ?_; rintro e w' ⟨rfl, rfl⟩))
  go_wp2
  go_ret
  refine ⟨rfl, 1 + q3, #[.cells #[.int .i64 a, .int .i64 b, .int .i64 c, .int .i64 d, .int .i64 e] 33, .cells #[.int .i64 a', .int .i64 b', .int .i64 c', .int .i64 d', .int .i64 e'] 33] ++ os3 ++ #[.cells #[.int .i64 c1, .int .i64 c2] 3], ?_⟩
  rw [HW3.out, HW.out]
  exact grow_after _ _ _ _ _ _


end Go.Proofs.Ytmkcckkjkfmheaa.Al

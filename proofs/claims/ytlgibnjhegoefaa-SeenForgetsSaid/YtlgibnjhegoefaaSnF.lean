/- SeenForgets: the walk of the law. -/
import Derived.Test.YtlgibnjhegoefaaSnA
import Derived.Test.YtlgibnjhegoefaaArgs
set_option linter.unusedVariables false
set_option linter.unusedSimpArgs false
namespace Go.Proofs.Ytlgibnjhegoefaa.Sn
open Go.RowKit Go.Maps Go.Proofs.Ytlgibnjhegoefaa.Base Go.Proofs.YtlgibnjhegoefaaW.PrintWords Go.Proofs.YtlgibnjhegoefaaW.PrintMore
attribute [local go_sem] max2_mx min2_mn max_two min_two max_three min_three max_four min_four

theorem forget_1 (k : K4) (u : Int) : ∃ L1, markL [] k u 0 = (decide (0 < cl u), L1) ∧ kept L1 k = decide (0 < cl u) ∧ L1.length ≤ 1 ∧ (L1 = [] ∧ cl u ≤ 0 ∨ L1 = [(k, cl u)] ∧ 0 < cl u) := by
  have h0 : cl 0 = 0 := by decide
  unfold markL
  by_cases h : 0 < cl u
  · rw [if_neg (by simp [kept, h0, h])]
    exact ⟨[(k, cl u)], by simp [h], by simp [kept, h], by simp, .inr ⟨rfl, h⟩⟩
  · rw [if_pos (.inr (.inl (by rw [h0]; omega)))]
    exact ⟨[], by simp [h], by simp [kept, h], by simp, .inl ⟨rfl, by omega⟩⟩

theorem forget_2 (k : K4) (u a n : Int) (L1 : List (K4 × Int)) (h : L1 = [] ∧ cl u ≤ 0 ∨ L1 = [(k, cl u)] ∧ 0 < cl u) : (markL L1 k a n).1 = (decide (cl u ≤ cl n) && decide (cl n < cl a)) := by
  have hb := cl_bounds n
  unfold markL
  rcases h with ⟨rfl, h⟩ | ⟨rfl, h⟩
  · have h1 : cl u ≤ cl n := by omega
    by_cases h2 : cl n < cl a
    · rw [if_neg (by simp [kept, h2])]
      simp [h1, h2]
    · rw [if_pos (.inr (.inl (by omega)))]
      simp [h2]
  · by_cases h1 : cl u ≤ cl n
    · have h3 : ¬ cl n < cl u := by omega
      by_cases h2 : cl n < cl a
      · rw [if_neg (by simp [kept, h2, h3])]
        simp [h1, h2]
      · rw [if_pos (.inr (.inl (by omega)))]
        simp [h2]
    · have h3 : cl n < cl u := by omega
      rw [if_pos (.inl (by simp [kept, h3]))]
      simp [h1]

set_option maxHeartbeats 2000000 in
theorem forgets (k : K4) (hk : k.wf) (u a n : Int) (w : World) :
    Calls Try.prog 6 #[k.v, .int .i64 u, .int .i64 a, .int .i64 n] w fun e w' => e = .returned (.bool true) ∧ Below w.heap.size w w' := by
  obtain ⟨L1, he1, hke, hl1, hcase⟩ := forget_1 k u
  have he2 := forget_2 k u a n L1 hcase
  have HM1 : Hid (∀ w' g b, SS w' g b [] → Calls Try.prog 9 #[.pointer (some ⟨g, 0, none⟩), .agg #[.int .i64 k.a, .int .i64 k.b, .int .i64 k.c, .int .i64 k.d], .int .i64 u, .int .i64 0] w' fun e w'' => e = .returned (.bool (decide (0 < cl u))) ∧ SS w'' g b L1 ∧ Only (fun k => k = b) w' w'') := Lib.hid (fun w' g b h => by
    have := mark_p w' h k hk u 0 (by simp)
    rwa [he1] at this)
  have HH : Hid (∀ w' g b, SS w' g b L1 → Calls Try.prog 13 #[.pointer (some ⟨g, 0, none⟩), .agg #[.int .i64 k.a, .int .i64 k.b, .int .i64 k.c, .int .i64 k.d]] w' fun e w'' => e = .returned (.bool (decide (0 < cl u))) ∧ Only (fun _ => False) w' w'') := Lib.hid (fun w' g b h => by
    have := has_p w' h k hk
    rwa [hke] at this)
  have HM2 : Hid (∀ w' g b, SS w' g b L1 → Calls Try.prog 9 #[.pointer (some ⟨g, 0, none⟩), .agg #[.int .i64 k.a, .int .i64 k.b, .int .i64 k.c, .int .i64 k.d], .int .i64 a, .int .i64 n] w' fun e w'' => e = .returned (.bool (decide (cl u ≤ cl n) && decide (cl n < cl a))) ∧ SS w'' g b (markL L1 k a n).2 ∧ Only (fun k => k = b) w' w'') := Lib.hid (fun w' g b h => by
    have := mark_p w' h k hk a n (by omega)
    rwa [he2] at this)
  have HCU := Lib.hid (clamp_r u)
  have HCA := Lib.hid (clamp_r a)
  have HCN := Lib.hid (clamp_r n)
  clear he1 hke hl1 hcase he2
  generalize (markL L1 k a n).2 = L2 at *
  generalize cl u = u' at *
  generalize cl a = a' at *
  generalize cl n = n' at *
  have HO1 : Hid (Only (fun _ => False) w (w.alloc (.cells #[.int .i64 k.a, .int .i64 k.b, .int .i64 k.c, .int .i64 k.d] 25))) := Lib.hid ((Only.refl _ w).alloc _)
  have HK1 := Lib.hid (heap_alloc_new w (.cells #[.int .i64 k.a, .int .i64 k.b, .int .i64 k.c, .int .i64 k.d] 25))
  have hq1 := blk_lt HK1.out
  unfold K4.v
  go_enter Try.func6, Try.ntmps6
  go_wp2_with fail
  generalize w.alloc (.cells #[.int .i64 k.a, .int .i64 k.b, .int .i64 k.c, .int .i64 k.d] 25) = w1 at *
  refine (new_p _).mono ?_
  rintro e w2 ⟨rfl, h2, o2⟩
  generalize w1.heap.size = b at *
  have hqb : w.heap.size ≠ b := by omega
  have H2 := Lib.hid h2
  have O2 : Hid (Only (fun k => w.heap.size ≤ k) w w2) := Lib.hid ((HO1.out.trans o2).mono (fun _ h => h.elim))
  have K2 := Lib.hid (o2.blk HK1.out (fun h => h))
  have hk0 : w2.cell? ⟨w.heap.size, 0, none⟩ = some (.int .i64 k.a) := cell_at K2.out 0 rfl
  have hk1 : w2.cell? ⟨w.heap.size, 1, none⟩ = some (.int .i64 k.b) := cell_at K2.out 1 rfl
  have hk2 : w2.cell? ⟨w.heap.size, 2, none⟩ = some (.int .i64 k.c) := cell_at K2.out 2 rfl
  have hk3 : w2.cell? ⟨w.heap.size, 3, none⟩ = some (.int .i64 k.d) := cell_at K2.out 3 rfl
  clear h2 o2
  go_wp2_with fail
  refine (HM1.out _ _ _ H2.out).mono ?_
  rintro e w3 ⟨rfl, h3, o3⟩
  have H3 := Lib.hid h3
  have O3 := Lib.hid (O2.out.trans (o3.mono (fun k e => by omega)))
  have K3 := Lib.hid (o3.blk K2.out hqb)
  clear hk0 hk1 hk2 hk3
  have hk0 : w3.cell? ⟨w.heap.size, 0, none⟩ = some (.int .i64 k.a) := cell_at K3.out 0 rfl
  have hk1 : w3.cell? ⟨w.heap.size, 1, none⟩ = some (.int .i64 k.b) := cell_at K3.out 1 rfl
  have hk2 : w3.cell? ⟨w.heap.size, 2, none⟩ = some (.int .i64 k.c) := cell_at K3.out 2 rfl
  have hk3 : w3.cell? ⟨w.heap.size, 3, none⟩ = some (.int .i64 k.d) := cell_at K3.out 3 rfl
  clear h3 o3
  have hcs : (u' ≤ n' ∧ n' < a' ∨ u' ≤ n' ∧ ¬ n' < a' ∨ ¬ u' ≤ n' ∧ n' < a' ∨ ¬ u' ≤ n' ∧ ¬ n' < a') := by omega
  by_cases h0 : 0 < u'
  all_goals
    rcases hcs with ⟨h1, h2⟩ | ⟨h1, h2⟩ | ⟨h1, h2⟩ | ⟨h1, h2⟩
    all_goals
      go_wp2_with (first | (go_at_call 8; with_reducible refine (HCU.out _).mono ?_; rintro e w' ⟨rfl, rfl⟩) | (go_at_call 8; with_reducible refine (HCN.out _).mono ?_; rintro e w' ⟨rfl, rfl⟩) | (go_at_call 8; with_reducible refine (HCA.out _).mono ?_; rintro e w' ⟨rfl, rfl⟩) | (go_at_call 13; refine (HH.out _ _ _ H3.out).mono ?_; rintro e w4 ⟨rfl, o4⟩; have H4 := Lib.hid (H3.out.only o4 (fun h => h) (fun h => h)); have O4 := Lib.hid (O3.out.trans (o4.mono (fun _ h => h.elim))); have K4 := Lib.hid (o4.blk K3.out (fun h => h)); have hk0 : w4.cell? ⟨w.heap.size, 0, none⟩ = some (.int .i64 k.a) := cell_at K4.out 0 rfl; have hk1 : w4.cell? ⟨w.heap.size, 1, none⟩ = some (.int .i64 k.b) := cell_at K4.out 1 rfl; have hk2 : w4.cell? ⟨w.heap.size, 2, none⟩ = some (.int .i64 k.c) := cell_at K4.out 2 rfl; have hk3 : w4.cell? ⟨w.heap.size, 3, none⟩ = some (.int .i64 k.d) := cell_at K4.out 3 rfl; clear o4) | (go_at_call 9; refine (HM2.out _ _ _ H4.out).mono ?_; rintro e w5 ⟨rfl, h5, o5⟩; have O5 := Lib.hid (O4.out.trans (o5.mono (fun k e => by omega))); clear h5 o5) | (go_at_call 11; refine (awake_p _).mono ?_; rintro e w6 ⟨rfl, o6⟩; have O6 := Lib.hid (O5.out.trans (o6.mono (fun _ h => h.elim))); clear o6))
      go_ret
      exact ⟨rfl, O6.out.below (Below.refl _ _) (Nat.le_refl _) (fun _ h => h)⟩

end Go.Proofs.Ytlgibnjhegoefaa.Sn

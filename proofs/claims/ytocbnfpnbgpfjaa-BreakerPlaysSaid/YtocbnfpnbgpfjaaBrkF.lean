/- The reference's breaker: its contracts, and what it has to do with the breaker's. -/
import Derived.Test.YtocbnfpnbgpfjaaBrkB
set_option linter.unusedVariables false
set_option linter.unusedSimpArgs false
namespace Go.Proofs.Ytocbnfpnbgpfjaa.Brk
open Go.RowKit Go.Proofs.Ytocbnfpnbgpfjaa.Base Go.Proofs.YtocbnfpnbgpfjaaW.PrintWords Go.Proofs.YtocbnfpnbgpfjaaW.PrintMore
attribute [local go_sem] max2_mx min2_mn max_two min_two max_three min_three max_four min_four

/-- The reference's cells, in the breaker's order. -/
def B38 (w : World) (g : Nat) (s f r p st now un : Int) (v : Value) (out good : Int) : Prop :=
  w.heap[g]? = some (.cells #[.int .i64 s, .int .i64 f, .int .i64 r, .int .i64 p, .int .i64 st, .int .i64 now, .int .i64 un, v, .int .i64 out, .int .i64 good] 38 (0, 0))

theorem new_r (s f r p : Int) (w : World) (hc : Cfg s f r p) :
    Calls Try.prog 8 #[.int .i64 s, .int .i64 f, .int .i64 r, .int .i64 p] w fun e w' => e = .returned (.pointer (some ⟨w.heap.size, 0, none⟩)) ∧ B38 w' w.heap.size s f r p 0 0 0 (.slice none 0 0) 0 0 ∧ Only (fun _ => False) w w' := by
  obtain ⟨hs1, hs2, hf1, hf2, hr1, hr2, hp1, hp2⟩ := hc
  have hs3 : ¬ s < 1 := by omega
  have hs4 : ¬ 64 < s := by omega
  have hf3 : ¬ f < 1 := by omega
  have hf4 : ¬ s < f := by omega
  have hr3 : ¬ r < 1 := by omega
  have hr4 : ¬ 1000000 < r := by omega
  have hp3 : ¬ p < 1 := by omega
  have hp4 : ¬ 16 < p := by omega
  go_enter Try.func8, Try.ntmps8
  go_wp2
  go_ret
  exact ⟨rfl, heap_alloc_new w _, (Only.refl _ w).alloc _⟩

theorem new_r_bad (s f r p : Int) (w : World) (h : ¬ Cfg s f r p) :
    Calls Try.prog 8 #[.int .i64 s, .int .i64 f, .int .i64 r, .int .i64 p] w fun e w' => e = .returned (.pointer none) ∧ w = w' := by
  by_cases h1 : s < 1
  · go_enter Try.func8, Try.ntmps8
    go_wp2
    go_ret
    exact ⟨rfl, rfl⟩
  by_cases h2 : 64 < s
  · go_enter Try.func8, Try.ntmps8
    go_wp2
    go_ret
    exact ⟨rfl, rfl⟩
  by_cases h3 : f < 1
  · go_enter Try.func8, Try.ntmps8
    go_wp2
    go_ret
    exact ⟨rfl, rfl⟩
  by_cases h4 : s < f
  · go_enter Try.func8, Try.ntmps8
    go_wp2
    go_ret
    exact ⟨rfl, rfl⟩
  by_cases h5 : r < 1
  · go_enter Try.func8, Try.ntmps8
    go_wp2
    go_ret
    exact ⟨rfl, rfl⟩
  by_cases h6 : 1000000 < r
  · go_enter Try.func8, Try.ntmps8
    go_wp2
    go_ret
    exact ⟨rfl, rfl⟩
  by_cases h7 : p < 1
  · go_enter Try.func8, Try.ntmps8
    go_wp2
    go_ret
    exact ⟨rfl, rfl⟩
  by_cases h8 : 16 < p
  · go_enter Try.func8, Try.ntmps8
    go_wp2
    go_ret
    exact ⟨rfl, rfl⟩
  exact absurd (by constructor <;> omega) h

section
variable (g : Nat) (s f r p st now un : Int) (v : Value) (out good t : Int) (w : World)

theorem on_r (hb : B38 w g s f r p st now un v out good) :
    Calls Try.prog 21 #[.pointer (some ⟨g, 0, none⟩), .int .i64 t] w fun e w' => e = .returned (.tuple #[]) ∧ B38 w' g s f r p st (mx now (cl t)) un v out good ∧ Only (fun i => i = g) w w' := by
  have HB := Lib.hid hb
  have hc5 : w.cell? ⟨g, 5, none⟩ = some (.int .i64 now) := cell_at hb 5 rfl
  have hf5 : w.frozen? ⟨g, 5, none⟩ = false := blk_frozen hb 5
  have HC := Lib.hid (clamp_r t)
  clear hb
  by_cases hlt : now < cl t
  · have HM : Hid (mx now (cl t) = cl t) := Lib.hid (by rcases mx_cases now (cl t) with h | h <;> omega)
    rw [HM.out]
    generalize cl t = x at *
    go_enter Try.func21, Try.ntmps21
    go_wp2
    go_quiet ((go_at_call 15; exact Calls.quiet_of_same (HC.out _)))
    have HBq : Hid (B38 (w.drewN nq) g s f r p st now un v out good) := Lib.hid HB.out
    have HOq : Hid (Only (fun i => i = g) w (w.drewN nq)) := Lib.hid ((Only.refl _ w).drewN _)
    have hc5 : (w.drewN nq).cell? ⟨g, 5, none⟩ = some (.int .i64 now) := cell_at HBq.out 5 rfl
    have hf5 : (w.drewN nq).frozen? ⟨g, 5, none⟩ = false := blk_frozen HBq.out 5
    generalize w.drewN nq = wq at *
    go_wp2_with (go_at_call 15; refine (HC.out _).mono ?_; rintro e w' ⟨rfl, rfl⟩)
    go_end0
    exact ⟨rfl, blk_set HBq.out 5 _, HOq.out.setCell (.inl rfl) _⟩
  · have HM : Hid (mx now (cl t) = now) := Lib.hid (by rcases mx_cases now (cl t) with h | h <;> omega)
    rw [HM.out]
    generalize cl t = x at *
    go_enter Try.func21, Try.ntmps21
    go_wp2
    go_quiet ((go_at_call 15; exact Calls.quiet_of_same (HC.out _)))
    go_wp2
    go_end0
    exact ⟨rfl, HB.out, (Only.refl _ w).drewN _⟩

theorem opens_r (hb : B38 w g s f r p st now un v out good) :
    Calls Try.prog 22 #[.pointer (some ⟨g, 0, none⟩)] w fun e w' => e = .returned (.tuple #[]) ∧ B38 w' g s f r p 1 now (ad now r) (.slice none 0 0) out good ∧ Only (fun i => i = g) w w' := by
  have hc4 : w.cell? ⟨g, 4, none⟩ = some (.int .i64 st) := cell_at hb 4 rfl
  have hf4 : w.frozen? ⟨g, 4, none⟩ = false := blk_frozen hb 4
  have HB1 : Hid (B38 (w.setCell ⟨g, 4, none⟩ (.int .i64 1)) g s f r p 1 now un v out good) := Lib.hid (blk_set hb 4 _)
  have HO1 : Hid (Only (fun i => i = g) w (w.setCell ⟨g, 4, none⟩ (.int .i64 1))) := Lib.hid ((Only.refl (fun i => i = g) w).setCell (.inl rfl) _)
  clear hb
  go_enter Try.func22, Try.ntmps22
  go_wp2
  generalize w.setCell ⟨g, 4, none⟩ (.int .i64 1) = w1 at *
  have hd2 : w1.cell? ⟨g, 2, none⟩ = some (.int .i64 r) := cell_at HB1.out 2 rfl
  have hd5 : w1.cell? ⟨g, 5, none⟩ = some (.int .i64 now) := cell_at HB1.out 5 rfl
  have hd6 : w1.cell? ⟨g, 6, none⟩ = some (.int .i64 un) := cell_at HB1.out 6 rfl
  have hf6 : w1.frozen? ⟨g, 6, none⟩ = false := blk_frozen HB1.out 6
  clear hc4 hf4
  go_still_tail 12, (by kernel_rfl)
  repeat still_step
  still_call (add_r now r _)
  repeat still_step
  refine wpStill_nil ?_
  change wpList _ _ _ _ _ w1.drew
  have HB2 : Hid (B38 (w1.setCell ⟨g, 6, none⟩ (.int .i64 (ad now r))).drew g s f r p 1 now (ad now r) v out good) := Lib.hid (blk_set HB1.out 6 _)
  have HO2 : Hid (Only (fun i => i = g) w (w1.setCell ⟨g, 6, none⟩ (.int .i64 (ad now r))).drew) := Lib.hid (HO1.out.setCell (.inl rfl) _).drew
  have he7 : (w1.setCell ⟨g, 6, none⟩ (.int .i64 (ad now r))).drew.cell? ⟨g, 7, none⟩ = some v := cell_at HB2.out 7 rfl
  have hf7 : (w1.setCell ⟨g, 6, none⟩ (.int .i64 (ad now r))).drew.frozen? ⟨g, 7, none⟩ = false := blk_frozen HB2.out 7
  go_wp2
  go_end0
  exact ⟨rfl, blk_set HB2.out 7 _, HO2.out.setCell (.inl rfl) _⟩
set_option maxHeartbeats 1000000 in
/-- Closed: everybody. -/
theorem allow_r_0 (hb : B38 w g s f r p 0 now un v out good)  :
    Calls Try.prog 11 #[.pointer (some ⟨g, 0, none⟩), .int .i64 t] w fun e w' => e = .returned (.bool true) ∧ B38 w' g s f r p 0 (mx now (cl t)) un v out good ∧ Only (fun i => i = g) w w' := by
  have HB := Lib.hid hb
  clear hb
  go_enter Try.func11, Try.ntmps11
  go_wp2_with (go_at_call 21; refine (on_r _ _ _ _ _ _ _ _ _ _ _ t _ HB.out).mono ?_; rintro e w1 ⟨rfl, hb1, ho1⟩; have HB1 := Lib.hid hb1; have HO1 := Lib.hid ho1; have hc3 : w1.cell? ⟨g, 3, none⟩ = some (.int .i64 p) := cell_at hb1 3 rfl; have hc4 : w1.cell? ⟨g, 4, none⟩ = some (.int .i64 0) := cell_at hb1 4 rfl; have hc5 : w1.cell? ⟨g, 5, none⟩ = some (.int .i64 (mx now (cl t))) := cell_at hb1 5 rfl; have hc6 : w1.cell? ⟨g, 6, none⟩ = some (.int .i64 un) := cell_at hb1 6 rfl; have hc8 : w1.cell? ⟨g, 8, none⟩ = some (.int .i64 out) := cell_at hb1 8 rfl; have hc9 : w1.cell? ⟨g, 9, none⟩ = some (.int .i64 good) := cell_at hb1 9 rfl; clear hb1 ho1)
  go_quiet (fail)
  have HBq : Hid (B38 (w1.drewN nq) g s f r p 0 (mx now (cl t)) un v out good) := Lib.hid HB1.out
  have HOq : Hid (Only (fun i => i = g) w (w1.drewN nq)) := Lib.hid (HO1.out.drewN _)
  generalize w1.drewN nq = wq at *
  have hq3 : wq.cell? ⟨g, 3, none⟩ = some (.int .i64 p) := cell_at HBq.out 3 rfl
  have hq4 : wq.cell? ⟨g, 4, none⟩ = some (.int .i64 0) := cell_at HBq.out 4 rfl
  have hq5 : wq.cell? ⟨g, 5, none⟩ = some (.int .i64 (mx now (cl t))) := cell_at HBq.out 5 rfl
  have hq6 : wq.cell? ⟨g, 6, none⟩ = some (.int .i64 un) := cell_at HBq.out 6 rfl
  have hq8 : wq.cell? ⟨g, 8, none⟩ = some (.int .i64 out) := cell_at HBq.out 8 rfl
  have hq9 : wq.cell? ⟨g, 9, none⟩ = some (.int .i64 good) := cell_at HBq.out 9 rfl
  go_wp2
  go_quiet (fail)
  have HBz : Hid (B38 (wq.drewN nq) g s f r p 0 (mx now (cl t)) un v out good) := Lib.hid HBq.out
  have HOz : Hid (Only (fun i => i = g) w (wq.drewN nq)) := Lib.hid (HOq.out.drewN _)
  generalize wq.drewN nq = wz at *
  have hz3 : wz.cell? ⟨g, 3, none⟩ = some (.int .i64 p) := cell_at HBz.out 3 rfl
  have hz4 : wz.cell? ⟨g, 4, none⟩ = some (.int .i64 0) := cell_at HBz.out 4 rfl
  have hz5 : wz.cell? ⟨g, 5, none⟩ = some (.int .i64 (mx now (cl t))) := cell_at HBz.out 5 rfl
  have hz6 : wz.cell? ⟨g, 6, none⟩ = some (.int .i64 un) := cell_at HBz.out 6 rfl
  have hz8 : wz.cell? ⟨g, 8, none⟩ = some (.int .i64 out) := cell_at HBz.out 8 rfl
  have hz9 : wz.cell? ⟨g, 9, none⟩ = some (.int .i64 good) := cell_at HBz.out 9 rfl
  have hzf : wz.frozen? ⟨g, 8, none⟩ = false := blk_frozen HBz.out 8
  go_wp2
  go_ret
  exact ⟨rfl, HBz.out, HOz.out⟩

set_option maxHeartbeats 1000000 in
/-- Open, and not rested: nobody. -/
theorem allow_r_1 (hb : B38 w g s f r p 1 now un v out good) (hu : (mx now (cl t)) < un) :
    Calls Try.prog 11 #[.pointer (some ⟨g, 0, none⟩), .int .i64 t] w fun e w' => e = .returned (.bool false) ∧ B38 w' g s f r p 1 (mx now (cl t)) un v out good ∧ Only (fun i => i = g) w w' := by
  have HB := Lib.hid hb
  clear hb
  go_enter Try.func11, Try.ntmps11
  go_wp2_with (go_at_call 21; refine (on_r _ _ _ _ _ _ _ _ _ _ _ t _ HB.out).mono ?_; rintro e w1 ⟨rfl, hb1, ho1⟩; have HB1 := Lib.hid hb1; have HO1 := Lib.hid ho1; have hc3 : w1.cell? ⟨g, 3, none⟩ = some (.int .i64 p) := cell_at hb1 3 rfl; have hc4 : w1.cell? ⟨g, 4, none⟩ = some (.int .i64 1) := cell_at hb1 4 rfl; have hc5 : w1.cell? ⟨g, 5, none⟩ = some (.int .i64 (mx now (cl t))) := cell_at hb1 5 rfl; have hc6 : w1.cell? ⟨g, 6, none⟩ = some (.int .i64 un) := cell_at hb1 6 rfl; have hc8 : w1.cell? ⟨g, 8, none⟩ = some (.int .i64 out) := cell_at hb1 8 rfl; have hc9 : w1.cell? ⟨g, 9, none⟩ = some (.int .i64 good) := cell_at hb1 9 rfl; clear hb1 ho1)
  go_quiet (fail)
  have HBq : Hid (B38 (w1.drewN nq) g s f r p 1 (mx now (cl t)) un v out good) := Lib.hid HB1.out
  have HOq : Hid (Only (fun i => i = g) w (w1.drewN nq)) := Lib.hid (HO1.out.drewN _)
  generalize w1.drewN nq = wq at *
  have hq3 : wq.cell? ⟨g, 3, none⟩ = some (.int .i64 p) := cell_at HBq.out 3 rfl
  have hq4 : wq.cell? ⟨g, 4, none⟩ = some (.int .i64 1) := cell_at HBq.out 4 rfl
  have hq5 : wq.cell? ⟨g, 5, none⟩ = some (.int .i64 (mx now (cl t))) := cell_at HBq.out 5 rfl
  have hq6 : wq.cell? ⟨g, 6, none⟩ = some (.int .i64 un) := cell_at HBq.out 6 rfl
  have hq8 : wq.cell? ⟨g, 8, none⟩ = some (.int .i64 out) := cell_at HBq.out 8 rfl
  have hq9 : wq.cell? ⟨g, 9, none⟩ = some (.int .i64 good) := cell_at HBq.out 9 rfl
  go_wp2
  go_quiet (fail)
  have HBz : Hid (B38 (wq.drewN nq) g s f r p 1 (mx now (cl t)) un v out good) := Lib.hid HBq.out
  have HOz : Hid (Only (fun i => i = g) w (wq.drewN nq)) := Lib.hid (HOq.out.drewN _)
  generalize wq.drewN nq = wz at *
  have hz3 : wz.cell? ⟨g, 3, none⟩ = some (.int .i64 p) := cell_at HBz.out 3 rfl
  have hz4 : wz.cell? ⟨g, 4, none⟩ = some (.int .i64 1) := cell_at HBz.out 4 rfl
  have hz5 : wz.cell? ⟨g, 5, none⟩ = some (.int .i64 (mx now (cl t))) := cell_at HBz.out 5 rfl
  have hz6 : wz.cell? ⟨g, 6, none⟩ = some (.int .i64 un) := cell_at HBz.out 6 rfl
  have hz8 : wz.cell? ⟨g, 8, none⟩ = some (.int .i64 out) := cell_at HBz.out 8 rfl
  have hz9 : wz.cell? ⟨g, 9, none⟩ = some (.int .i64 good) := cell_at HBz.out 9 rfl
  have hzf : wz.frozen? ⟨g, 8, none⟩ = false := blk_frozen HBz.out 8
  go_wp2
  go_ret
  exact ⟨rfl, HBz.out, HOz.out⟩

set_option maxHeartbeats 1000000 in
/-- Open, and rested. -/
theorem allow_r_1yes (hb : B38 w g s f r p 1 now un v out good) (hu : un ≤ (mx now (cl t))) (hp : 1 ≤ p) :
    Calls Try.prog 11 #[.pointer (some ⟨g, 0, none⟩), .int .i64 t] w fun e w' => e = .returned (.bool true) ∧ B38 w' g s f r p 2 (mx now (cl t)) un v 1 0 ∧ Only (fun i => i = g) w w' := by
  have HB := Lib.hid hb
  clear hb
  go_enter Try.func11, Try.ntmps11
  go_wp2_with (go_at_call 21; refine (on_r _ _ _ _ _ _ _ _ _ _ _ t _ HB.out).mono ?_; rintro e w1 ⟨rfl, hb1, ho1⟩; have HB1 := Lib.hid hb1; have HO1 := Lib.hid ho1; have hc3 : w1.cell? ⟨g, 3, none⟩ = some (.int .i64 p) := cell_at hb1 3 rfl; have hc4 : w1.cell? ⟨g, 4, none⟩ = some (.int .i64 1) := cell_at hb1 4 rfl; have hc5 : w1.cell? ⟨g, 5, none⟩ = some (.int .i64 (mx now (cl t))) := cell_at hb1 5 rfl; have hc6 : w1.cell? ⟨g, 6, none⟩ = some (.int .i64 un) := cell_at hb1 6 rfl; have hc8 : w1.cell? ⟨g, 8, none⟩ = some (.int .i64 out) := cell_at hb1 8 rfl; have hc9 : w1.cell? ⟨g, 9, none⟩ = some (.int .i64 good) := cell_at hb1 9 rfl; clear hb1 ho1)
  go_quiet (fail)
  have HBq : Hid (B38 (w1.drewN nq) g s f r p 1 (mx now (cl t)) un v out good) := Lib.hid HB1.out
  have HOq : Hid (Only (fun i => i = g) w (w1.drewN nq)) := Lib.hid (HO1.out.drewN _)
  generalize w1.drewN nq = wq at *
  have hq3 : wq.cell? ⟨g, 3, none⟩ = some (.int .i64 p) := cell_at HBq.out 3 rfl
  have hq4 : wq.cell? ⟨g, 4, none⟩ = some (.int .i64 1) := cell_at HBq.out 4 rfl
  have hq5 : wq.cell? ⟨g, 5, none⟩ = some (.int .i64 (mx now (cl t))) := cell_at HBq.out 5 rfl
  have hq6 : wq.cell? ⟨g, 6, none⟩ = some (.int .i64 un) := cell_at HBq.out 6 rfl
  have hq8 : wq.cell? ⟨g, 8, none⟩ = some (.int .i64 out) := cell_at HBq.out 8 rfl
  have hq9 : wq.cell? ⟨g, 9, none⟩ = some (.int .i64 good) := cell_at HBq.out 9 rfl
  have f4 : wq.frozen? ⟨g, 4, none⟩ = false := blk_frozen HBq.out 4
  have b1 := blk_set HBq.out 4 (.int .i64 2)
  have b2 := blk_set b1 8 (.int .i64 0)
  have b3 := blk_set b2 9 (.int .i64 0)
  have c8 : (wq.setCell ⟨g, 4, none⟩ (.int .i64 2)).cell? ⟨g, 8, none⟩ = some (.int .i64 out) := cell_at b1 8 rfl
  have f8 : (wq.setCell ⟨g, 4, none⟩ (.int .i64 2)).frozen? ⟨g, 8, none⟩ = false := blk_frozen b1 8
  have c9 : ((wq.setCell ⟨g, 4, none⟩ (.int .i64 2)).setCell ⟨g, 8, none⟩ (.int .i64 0)).cell? ⟨g, 9, none⟩ = some (.int .i64 good) := cell_at b2 9 rfl
  have f9 : ((wq.setCell ⟨g, 4, none⟩ (.int .i64 2)).setCell ⟨g, 8, none⟩ (.int .i64 0)).frozen? ⟨g, 9, none⟩ = false := blk_frozen b2 9
  have HB3 : Hid (B38 (((wq.setCell ⟨g, 4, none⟩ (.int .i64 2)).setCell ⟨g, 8, none⟩ (.int .i64 0)).setCell ⟨g, 9, none⟩ (.int .i64 0)) g s f r p 2 (mx now (cl t)) un v 0 0) := Lib.hid b3
  have HO3 : Hid (Only (fun i => i = g) w (((wq.setCell ⟨g, 4, none⟩ (.int .i64 2)).setCell ⟨g, 8, none⟩ (.int .i64 0)).setCell ⟨g, 9, none⟩ (.int .i64 0))) := Lib.hid (((HOq.out.setCell (.inl rfl) _).setCell (.inl rfl) _).setCell (.inl rfl) _)
  clear b1 b2 b3 HB1 HO1
  go_wp2
  generalize ((wq.setCell ⟨g, 4, none⟩ (.int .i64 2)).setCell ⟨g, 8, none⟩ (.int .i64 0)).setCell ⟨g, 9, none⟩ (.int .i64 0) = w3 at *
  clear hq3 hq4 hq5 hq6 hq8 hq9 f4 c8 f8 c9 f9
  have hd3 : w3.cell? ⟨g, 3, none⟩ = some (.int .i64 p) := cell_at HB3.out 3 rfl
  have hd4 : w3.cell? ⟨g, 4, none⟩ = some (.int .i64 2) := cell_at HB3.out 4 rfl
  have hd5 : w3.cell? ⟨g, 5, none⟩ = some (.int .i64 (mx now (cl t))) := cell_at HB3.out 5 rfl
  have hd6 : w3.cell? ⟨g, 6, none⟩ = some (.int .i64 un) := cell_at HB3.out 6 rfl
  have hd8 : w3.cell? ⟨g, 8, none⟩ = some (.int .i64 0) := cell_at HB3.out 8 rfl
  have hd9 : w3.cell? ⟨g, 9, none⟩ = some (.int .i64 0) := cell_at HB3.out 9 rfl
  go_quiet (fail)
  have HBz : Hid (B38 (w3.drewN nq) g s f r p 2 (mx now (cl t)) un v 0 0) := Lib.hid HB3.out
  have HOz : Hid (Only (fun i => i = g) w (w3.drewN nq)) := Lib.hid (HO3.out.drewN _)
  generalize w3.drewN nq = wz at *
  have hz3 : wz.cell? ⟨g, 3, none⟩ = some (.int .i64 p) := cell_at HBz.out 3 rfl
  have hz4 : wz.cell? ⟨g, 4, none⟩ = some (.int .i64 2) := cell_at HBz.out 4 rfl
  have hz5 : wz.cell? ⟨g, 5, none⟩ = some (.int .i64 (mx now (cl t))) := cell_at HBz.out 5 rfl
  have hz6 : wz.cell? ⟨g, 6, none⟩ = some (.int .i64 un) := cell_at HBz.out 6 rfl
  have hz8 : wz.cell? ⟨g, 8, none⟩ = some (.int .i64 0) := cell_at HBz.out 8 rfl
  have hz9 : wz.cell? ⟨g, 9, none⟩ = some (.int .i64 0) := cell_at HBz.out 9 rfl
  have hzf : wz.frozen? ⟨g, 8, none⟩ = false := blk_frozen HBz.out 8
  go_wp2
  go_ret
  exact ⟨rfl, blk_set HBz.out 8 _, HOz.out.setCell (.inl rfl) _⟩

set_option maxHeartbeats 1000000 in
/-- Half open: nobody more. -/
theorem allow_r_2no (hb : B38 w g s f r p 2 now un v out good) (hu : ¬ out < p) :
    Calls Try.prog 11 #[.pointer (some ⟨g, 0, none⟩), .int .i64 t] w fun e w' => e = .returned (.bool false) ∧ B38 w' g s f r p 2 (mx now (cl t)) un v out good ∧ Only (fun i => i = g) w w' := by
  have HB := Lib.hid hb
  clear hb
  go_enter Try.func11, Try.ntmps11
  go_wp2_with (go_at_call 21; refine (on_r _ _ _ _ _ _ _ _ _ _ _ t _ HB.out).mono ?_; rintro e w1 ⟨rfl, hb1, ho1⟩; have HB1 := Lib.hid hb1; have HO1 := Lib.hid ho1; have hc3 : w1.cell? ⟨g, 3, none⟩ = some (.int .i64 p) := cell_at hb1 3 rfl; have hc4 : w1.cell? ⟨g, 4, none⟩ = some (.int .i64 2) := cell_at hb1 4 rfl; have hc5 : w1.cell? ⟨g, 5, none⟩ = some (.int .i64 (mx now (cl t))) := cell_at hb1 5 rfl; have hc6 : w1.cell? ⟨g, 6, none⟩ = some (.int .i64 un) := cell_at hb1 6 rfl; have hc8 : w1.cell? ⟨g, 8, none⟩ = some (.int .i64 out) := cell_at hb1 8 rfl; have hc9 : w1.cell? ⟨g, 9, none⟩ = some (.int .i64 good) := cell_at hb1 9 rfl; clear hb1 ho1)
  go_quiet (fail)
  have HBq : Hid (B38 (w1.drewN nq) g s f r p 2 (mx now (cl t)) un v out good) := Lib.hid HB1.out
  have HOq : Hid (Only (fun i => i = g) w (w1.drewN nq)) := Lib.hid (HO1.out.drewN _)
  generalize w1.drewN nq = wq at *
  have hq3 : wq.cell? ⟨g, 3, none⟩ = some (.int .i64 p) := cell_at HBq.out 3 rfl
  have hq4 : wq.cell? ⟨g, 4, none⟩ = some (.int .i64 2) := cell_at HBq.out 4 rfl
  have hq5 : wq.cell? ⟨g, 5, none⟩ = some (.int .i64 (mx now (cl t))) := cell_at HBq.out 5 rfl
  have hq6 : wq.cell? ⟨g, 6, none⟩ = some (.int .i64 un) := cell_at HBq.out 6 rfl
  have hq8 : wq.cell? ⟨g, 8, none⟩ = some (.int .i64 out) := cell_at HBq.out 8 rfl
  have hq9 : wq.cell? ⟨g, 9, none⟩ = some (.int .i64 good) := cell_at HBq.out 9 rfl
  go_wp2
  go_quiet (fail)
  have HBz : Hid (B38 (wq.drewN nq) g s f r p 2 (mx now (cl t)) un v out good) := Lib.hid HBq.out
  have HOz : Hid (Only (fun i => i = g) w (wq.drewN nq)) := Lib.hid (HOq.out.drewN _)
  generalize wq.drewN nq = wz at *
  have hz3 : wz.cell? ⟨g, 3, none⟩ = some (.int .i64 p) := cell_at HBz.out 3 rfl
  have hz4 : wz.cell? ⟨g, 4, none⟩ = some (.int .i64 2) := cell_at HBz.out 4 rfl
  have hz5 : wz.cell? ⟨g, 5, none⟩ = some (.int .i64 (mx now (cl t))) := cell_at HBz.out 5 rfl
  have hz6 : wz.cell? ⟨g, 6, none⟩ = some (.int .i64 un) := cell_at HBz.out 6 rfl
  have hz8 : wz.cell? ⟨g, 8, none⟩ = some (.int .i64 out) := cell_at HBz.out 8 rfl
  have hz9 : wz.cell? ⟨g, 9, none⟩ = some (.int .i64 good) := cell_at HBz.out 9 rfl
  have hzf : wz.frozen? ⟨g, 8, none⟩ = false := blk_frozen HBz.out 8
  go_wp2
  go_ret
  exact ⟨rfl, HBz.out, HOz.out⟩

set_option maxHeartbeats 1000000 in
/-- Half open: one more. -/
theorem allow_r_2yes (hb : B38 w g s f r p 2 now un v out good) (hu : out < p) (hw : wrap64 (out + 1) = out + 1) :
    Calls Try.prog 11 #[.pointer (some ⟨g, 0, none⟩), .int .i64 t] w fun e w' => e = .returned (.bool true) ∧ B38 w' g s f r p 2 (mx now (cl t)) un v (out + 1) good ∧ Only (fun i => i = g) w w' := by
  have HB := Lib.hid hb
  clear hb
  go_enter Try.func11, Try.ntmps11
  go_wp2_with (go_at_call 21; refine (on_r _ _ _ _ _ _ _ _ _ _ _ t _ HB.out).mono ?_; rintro e w1 ⟨rfl, hb1, ho1⟩; have HB1 := Lib.hid hb1; have HO1 := Lib.hid ho1; have hc3 : w1.cell? ⟨g, 3, none⟩ = some (.int .i64 p) := cell_at hb1 3 rfl; have hc4 : w1.cell? ⟨g, 4, none⟩ = some (.int .i64 2) := cell_at hb1 4 rfl; have hc5 : w1.cell? ⟨g, 5, none⟩ = some (.int .i64 (mx now (cl t))) := cell_at hb1 5 rfl; have hc6 : w1.cell? ⟨g, 6, none⟩ = some (.int .i64 un) := cell_at hb1 6 rfl; have hc8 : w1.cell? ⟨g, 8, none⟩ = some (.int .i64 out) := cell_at hb1 8 rfl; have hc9 : w1.cell? ⟨g, 9, none⟩ = some (.int .i64 good) := cell_at hb1 9 rfl; clear hb1 ho1)
  go_quiet (fail)
  have HBq : Hid (B38 (w1.drewN nq) g s f r p 2 (mx now (cl t)) un v out good) := Lib.hid HB1.out
  have HOq : Hid (Only (fun i => i = g) w (w1.drewN nq)) := Lib.hid (HO1.out.drewN _)
  generalize w1.drewN nq = wq at *
  have hq3 : wq.cell? ⟨g, 3, none⟩ = some (.int .i64 p) := cell_at HBq.out 3 rfl
  have hq4 : wq.cell? ⟨g, 4, none⟩ = some (.int .i64 2) := cell_at HBq.out 4 rfl
  have hq5 : wq.cell? ⟨g, 5, none⟩ = some (.int .i64 (mx now (cl t))) := cell_at HBq.out 5 rfl
  have hq6 : wq.cell? ⟨g, 6, none⟩ = some (.int .i64 un) := cell_at HBq.out 6 rfl
  have hq8 : wq.cell? ⟨g, 8, none⟩ = some (.int .i64 out) := cell_at HBq.out 8 rfl
  have hq9 : wq.cell? ⟨g, 9, none⟩ = some (.int .i64 good) := cell_at HBq.out 9 rfl
  go_wp2
  go_quiet (fail)
  have HBz : Hid (B38 (wq.drewN nq) g s f r p 2 (mx now (cl t)) un v out good) := Lib.hid HBq.out
  have HOz : Hid (Only (fun i => i = g) w (wq.drewN nq)) := Lib.hid (HOq.out.drewN _)
  generalize wq.drewN nq = wz at *
  have hz3 : wz.cell? ⟨g, 3, none⟩ = some (.int .i64 p) := cell_at HBz.out 3 rfl
  have hz4 : wz.cell? ⟨g, 4, none⟩ = some (.int .i64 2) := cell_at HBz.out 4 rfl
  have hz5 : wz.cell? ⟨g, 5, none⟩ = some (.int .i64 (mx now (cl t))) := cell_at HBz.out 5 rfl
  have hz6 : wz.cell? ⟨g, 6, none⟩ = some (.int .i64 un) := cell_at HBz.out 6 rfl
  have hz8 : wz.cell? ⟨g, 8, none⟩ = some (.int .i64 out) := cell_at HBz.out 8 rfl
  have hz9 : wz.cell? ⟨g, 9, none⟩ = some (.int .i64 good) := cell_at HBz.out 9 rfl
  have hzf : wz.frozen? ⟨g, 8, none⟩ = false := blk_frozen HBz.out 8
  go_wp2
  go_ret
  exact ⟨rfl, blk_set HBz.out 8 _, HOz.out.setCell (.inl rfl) _⟩
end

end Go.Proofs.Ytocbnfpnbgpfjaa.Brk

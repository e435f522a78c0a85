/- The contracts of breaker's functions: what a call answers, and what the breaker holds behind it. -/
import Derived.Test.YtocbnfpnbgpfjaaProg
import Derived.Test.YtocbnfpnbgpfjaaBase
import Derived.WalkSpells
set_option linter.unusedVariables false
set_option linter.unusedSimpArgs false
namespace Go.Proofs.Ytocbnfpnbgpfjaa.Brk
open Go.RowKit Go.Proofs.Ytocbnfpnbgpfjaa.Base Go.Proofs.YtocbnfpnbgpfjaaW.PrintWords Go.Proofs.YtocbnfpnbgpfjaaW.PrintMore
attribute [local go_sem] max2_mx min2_mn max_two min_two max_three min_three max_four min_four

theorem clamp_p (a : Int) (w : World) : Calls Try.prog 25 #[.int .i64 a] w fun e w' => e = .returned (.int .i64 (cl a)) ∧ w' = w := by
  have h := cl_mn a
  go_enter Try.func25, Try.ntmps25
  go_wp2
  go_ret
  exact ⟨rfl, rfl⟩

/-- The breaker's cells: size, failures, rest, probes; state, time, until; the last results; through, good. -/
def B46 (w : World) (g : Nat) (s f r p st now un : Int) (v : Value) (out good : Int) : Prop :=
  w.heap[g]? = some (.cells #[.int .i64 s, .int .i64 f, .int .i64 r, .int .i64 p, .int .i64 st, .int .i64 now, .int .i64 un, v, .int .i64 out, .int .i64 good] 46 (0, 0))

theorem none_nil (w : World) : Calls Try.prog 18 #[.pointer none] w fun e w' => e = .returned (.bool true) ∧ w = w' := by
  go_enter Try.func18, Try.ntmps18
  go_wp2
  go_ret
  exact ⟨rfl, rfl⟩

theorem none_p (g : Nat) (s f r p st now un : Int) (v : Value) (out good : Int) (w : World) (hb : B46 w g s f r p st now un v out good) (hs : 1 ≤ s) :
    Calls Try.prog 18 #[.pointer (some ⟨g, 0, none⟩)] w fun e w' => e = .returned (.bool false) ∧ w = w' := by
  have hc0 : w.cell? ⟨g, 0, none⟩ = some (.int .i64 s) := cell_at hb 0 rfl
  have hz : (s == 0) = false := by simp; omega
  clear hb
  go_enter Try.func18, Try.ntmps18
  go_wp2
  go_ret
  exact ⟨rfl, rfl⟩

theorem state_nil (w : World) : Calls Try.prog 14 #[.pointer none] w fun e w' => e = .returned (.int .i64 1) ∧ w = w' := by
  go_enter Try.func14, Try.ntmps14
  go_wp2_with (go_at_call 18; refine (none_nil _).mono ?_; rintro e w' ⟨rfl, rfl⟩)
  go_ret
  exact ⟨rfl, rfl⟩

theorem state_p (g : Nat) (s f r p st now un : Int) (v : Value) (out good : Int) (w : World) (hb : B46 w g s f r p st now un v out good) (hs : 1 ≤ s) :
    Calls Try.prog 14 #[.pointer (some ⟨g, 0, none⟩)] w fun e w' => e = .returned (.int .i64 st) ∧ w = w' := by
  have HB := Lib.hid hb
  have hc4 : w.cell? ⟨g, 4, none⟩ = some (.int .i64 st) := cell_at hb 4 rfl
  clear hb
  go_enter Try.func14, Try.ntmps14
  go_wp2_with (go_at_call 18; refine (none_p _ _ _ _ _ _ _ _ _ _ _ _ HB.out hs).mono ?_; rintro e w' ⟨rfl, rfl⟩)
  go_ret
  exact ⟨rfl, rfl⟩

set_option maxHeartbeats 1000000 in
theorem at_p (g : Nat) (s f r p st now un : Int) (v : Value) (out good t : Int) (w : World) (hb : B46 w g s f r p st now un v out good) :
    Calls Try.prog 19 #[.pointer (some ⟨g, 0, none⟩), .int .i64 t] w fun e w' => e = .returned (.tuple #[]) ∧ B46 w' g s f r p st (mx now (cl t)) un v out good ∧ Only (fun i => i = g) w w' := by
  have HB := Lib.hid hb
  have hc5 : w.cell? ⟨g, 5, none⟩ = some (.int .i64 now) := cell_at hb 5 rfl
  have hf5 : w.frozen? ⟨g, 5, none⟩ = false := blk_frozen hb 5
  clear hb
  go_enter Try.func19, Try.ntmps19
  go_wp2
  go_still_tail 10, (by kernel_rfl)
  still_call (clamp_p t _)
  repeat still_step
  refine wpStill_nil ?_
  change wpList _ _ _ _ _ w.drew
  go_wp2
  go_end0
  refine ⟨rfl, ?_, ?_⟩
  · exact blk_set HB.out 5 _
  · exact (((Only.refl (fun i => i = g) w).setCell (.inl rfl) _).drew)

set_option maxHeartbeats 1000000 in
theorem become_p (g : Nat) (s f r p st now un : Int) (v : Value) (out good k : Int) (w : World) (hb : B46 w g s f r p st now un v out good) :
    Calls Try.prog 20 #[.pointer (some ⟨g, 0, none⟩), .int .i64 k] w fun e w' => e = .returned (.tuple #[]) ∧ B46 w' g s f r p k now un (.slice none 0 0) 0 0 ∧ Only (fun i => i = g) w w' := by
  have b1 := blk_set hb 4 (.int .i64 k)
  have b2 := blk_set b1 7 (.slice none 0 0)
  have b3 := blk_set b2 8 (.int .i64 0)
  have b4 := blk_set b3 9 (.int .i64 0)
  have c4 : w.cell? ⟨g, 4, none⟩ = some (.int .i64 st) := cell_at hb 4 rfl
  have f4 : w.frozen? ⟨g, 4, none⟩ = false := blk_frozen hb 4
  have c7 : (w.setCell ⟨g, 4, none⟩ (.int .i64 k)).cell? ⟨g, 7, none⟩ = some v := cell_at b1 7 rfl
  have f7 : (w.setCell ⟨g, 4, none⟩ (.int .i64 k)).frozen? ⟨g, 7, none⟩ = false := blk_frozen b1 7
  have c8 : ((w.setCell ⟨g, 4, none⟩ (.int .i64 k)).setCell ⟨g, 7, none⟩ (.slice none 0 0)).cell? ⟨g, 8, none⟩ = some (.int .i64 out) := cell_at b2 8 rfl
  have f8 : ((w.setCell ⟨g, 4, none⟩ (.int .i64 k)).setCell ⟨g, 7, none⟩ (.slice none 0 0)).frozen? ⟨g, 8, none⟩ = false := blk_frozen b2 8
  have c9 : (((w.setCell ⟨g, 4, none⟩ (.int .i64 k)).setCell ⟨g, 7, none⟩ (.slice none 0 0)).setCell ⟨g, 8, none⟩ (.int .i64 0)).cell? ⟨g, 9, none⟩ = some (.int .i64 good) := cell_at b3 9 rfl
  have f9 : (((w.setCell ⟨g, 4, none⟩ (.int .i64 k)).setCell ⟨g, 7, none⟩ (.slice none 0 0)).setCell ⟨g, 8, none⟩ (.int .i64 0)).frozen? ⟨g, 9, none⟩ = false := blk_frozen b3 9
  have HB4 : Hid (B46 ((((w.setCell ⟨g, 4, none⟩ (.int .i64 k)).setCell ⟨g, 7, none⟩ (.slice none 0 0)).setCell ⟨g, 8, none⟩ (.int .i64 0)).setCell ⟨g, 9, none⟩ (.int .i64 0)) g s f r p k now un (.slice none 0 0) 0 0) := Lib.hid b4
  clear b1 b2 b3 b4 hb
  go_enter Try.func20, Try.ntmps20
  go_wp2
  go_end0
  refine ⟨rfl, HB4.out, ?_⟩
  exact (((((Only.refl (fun i => i = g) w).setCell (.inl rfl) _).setCell (.inl rfl) _).setCell (.inl rfl) _).setCell (.inl rfl) _)

/-- A time and a span behind it. -/
def ad (a b : Int) : Int := cl (cl a + cl b)

theorem add_p (a b : Int) (w : World) : Calls Try.prog 26 #[.int .i64 a, .int .i64 b] w fun e w' => e = .returned (.int .i64 (ad a b)) ∧ w' = w := by
  have ha := cl_bounds a
  have hb := cl_bounds b
  have hw : wrap64 (cl a + cl b) = cl a + cl b := by unfold wrap64; omega
  have HC := Lib.hid (clamp_p a)
  have HD := Lib.hid (clamp_p b)
  have HE := Lib.hid (clamp_p (cl a + cl b))
  have HA : Hid (ad a b = cl (cl a + cl b)) := Lib.hid rfl
  generalize cl a = x at *
  generalize cl b = y at *
  generalize cl (x + y) = z at *
  obtain ⟨ha0, ha1⟩ := ha
  obtain ⟨hb0, hb1⟩ := hb
  go_enter Try.func26, Try.ntmps26
  go_wp2_with (first | (go_at_call 25; with_reducible refine (HC.out _).mono ?_; rintro e w' ⟨rfl, rfl⟩) | (go_at_call 25; with_reducible refine (HD.out _).mono ?_; rintro e w' ⟨rfl, rfl⟩) | (go_at_call 25; with_reducible refine (HE.out _).mono ?_; rintro e w' ⟨rfl, rfl⟩))
  go_ret
  exact ⟨ret_int HA.out.symm, rfl⟩

set_option maxHeartbeats 1000000 in
theorem open_p (g : Nat) (s f r p st now un : Int) (v : Value) (out good : Int) (w : World) (hb : B46 w g s f r p st now un v out good) :
    Calls Try.prog 24 #[.pointer (some ⟨g, 0, none⟩)] w fun e w' => e = .returned (.tuple #[]) ∧ B46 w' g s f r p 1 now (ad now r) (.slice none 0 0) 0 0 ∧ Only (fun i => i = g) w w' := by
  have HB := Lib.hid hb
  clear hb
  go_enter Try.func24, Try.ntmps24
  go_wp2_with (go_at_call 20; refine (become_p g s f r p st now un v out good 1 _ HB.out).mono ?_; rintro e w1 ⟨rfl, hb1, ho1⟩; have HB1 := Lib.hid hb1; have HO1 := Lib.hid ho1; have hc2 : w1.cell? ⟨g, 2, none⟩ = some (.int .i64 r) := cell_at hb1 2 rfl; have hc5 : w1.cell? ⟨g, 5, none⟩ = some (.int .i64 now) := cell_at hb1 5 rfl; have hc6 : w1.cell? ⟨g, 6, none⟩ = some (.int .i64 un) := cell_at hb1 6 rfl; have hf6 : w1.frozen? ⟨g, 6, none⟩ = false := blk_frozen hb1 6; clear hb1 ho1)
  go_still_tail 12, (by kernel_rfl)
  repeat still_step
  still_call (add_p now r _)
  repeat still_step
  refine wpStill_nil ?_
  change wpList _ _ _ _ _ w1.drew
  go_wp2
  go_end0
  refine ⟨rfl, ?_, ?_⟩
  · exact blk_set HB1.out 6 _
  · exact HO1.out.trans (((Only.refl (fun i => i = g) w1).setCell (.inl rfl) _).drew)

theorem new_ok (s f r p : Int) (w : World) (hs : 1 ≤ s ∧ s ≤ 64) (hf : 1 ≤ f ∧ f ≤ s) (hr : 1 ≤ r ∧ r ≤ 1000000) (hp : 1 ≤ p ∧ p ≤ 16) :
    Calls Try.prog 7 #[.int .i64 s, .int .i64 f, .int .i64 r, .int .i64 p] w fun e w' => e = .returned (.tuple #[.pointer (some ⟨w.heap.size, 0, none⟩), .int .i64 0]) ∧ B46 w' w.heap.size s f r p 0 0 0 (.slice none 0 0) 0 0 ∧ Only (fun _ => False) w w' := by
  obtain ⟨hs1, hs2⟩ := hs
  obtain ⟨hf1, hf2⟩ := hf
  obtain ⟨hr1, hr2⟩ := hr
  obtain ⟨hp1, hp2⟩ := hp
  have hs3 : ¬ s < 1 := by omega
  have hs4 : ¬ 64 < s := by omega
  have hf3 : ¬ f < 1 := by omega
  have hf4 : ¬ s < f := by omega
  have hr3 : ¬ r < 1 := by omega
  have hr4 : ¬ 1000000 < r := by omega
  have hp3 : ¬ p < 1 := by omega
  have hp4 : ¬ 16 < p := by omega
  go_enter Try.func7, Try.ntmps7
  go_wp2
  go_ret2
  exact ⟨rfl, heap_alloc_new w _, (Only.refl _ w).alloc _⟩

theorem allow_nil (t : Int) (w : World) : Calls Try.prog 10 #[.pointer none, .int .i64 t] w fun e w' => e = .returned (.bool false) ∧ w = w' := by
  go_enter Try.func10, Try.ntmps10
  go_wp2_with (go_at_call 18; refine (none_nil _).mono ?_; rintro e w' ⟨rfl, rfl⟩)
  go_ret
  exact ⟨rfl, rfl⟩

theorem done_nil (t : Int) (b : Bool) (w : World) : Calls Try.prog 13 #[.pointer none, .int .i64 t, .bool b] w fun e w' => e = .returned (.int .i64 1) ∧ w = w' := by
  go_enter Try.func13, Try.ntmps13
  go_wp2_with (go_at_call 18; refine (none_nil _).mono ?_; rintro e w' ⟨rfl, rfl⟩)
  go_ret
  exact ⟨rfl, rfl⟩

end Go.Proofs.Ytocbnfpnbgpfjaa.Brk

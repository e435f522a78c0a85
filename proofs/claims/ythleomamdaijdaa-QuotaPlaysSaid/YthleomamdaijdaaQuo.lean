/- The contracts of the functions of quota that its laws reach: what a call answers, and what the quota holds behind it. -/
import Derived.Test.YthleomamdaijdaaProg
import Derived.Test.YthleomamdaijdaaBase
set_option linter.unusedVariables false
set_option linter.unusedSimpArgs false
namespace Go.Proofs.Ythleomamdaijdaa.Quo
open Go.RowKit Go.Proofs.Ythleomamdaijdaa.Base Go.Proofs.YthleomamdaijdaaW.PrintWords Go.Proofs.YthleomamdaijdaaW.PrintMore
attribute [local go_sem] max2_mx min2_mn max_two min_two max_three min_three max_four min_four

theorem clamp_p (a : Int) (w : World) : Calls Try.prog 48 #[.int .i64 a] w fun e w' => e = .returned (.int .i64 (cl a)) ∧ w' = w := by
  have h := cl_mn a
  go_enter Try.func48, Try.ntmps48
  go_wp2
  go_ret
  exact ⟨rfl, rfl⟩

/-- The quota's cells. -/
def Q57 (w : World) (g : Nat) (p b n m : Int) : Prop := w.heap[g]? = some (.cells #[.int .i64 p, .int .i64 b, .int .i64 n, .int .i64 m] 57 (0, 0))

/-- What over tells, and the time behind it. -/
def ovn (n now : Int) : Int := mx n (cl now)
def ovr (p n m now k : Int) : Int := wrap64 (wrap64 (mx m (ovn n now) + wrap64 (k * p)) - ovn n now)

set_option maxHeartbeats 1000000 in
theorem over_p (g : Nat) (p b n m now k : Int) (w : World) (hq : Q57 w g p b n m) :
    Calls Try.prog 52 #[.pointer (some ⟨g, 0, none⟩), .int .i64 now, .int .i64 k] w fun e w' => e = .returned (.int .i64 (ovr p n m now k)) ∧ Q57 w' g p b (ovn n now) m ∧ Only (fun i => i = g) w w' := by
  unfold Q57 at hq
  have hc0 : w.cell? ⟨g, 0, none⟩ = some (.int .i64 p) := cell_at hq 0 rfl
  have hc1 : w.cell? ⟨g, 1, none⟩ = some (.int .i64 b) := cell_at hq 1 rfl
  have hc2 : w.cell? ⟨g, 2, none⟩ = some (.int .i64 n) := cell_at hq 2 rfl
  have hc3 : w.cell? ⟨g, 3, none⟩ = some (.int .i64 m) := cell_at hq 3 rfl
  have hf2 := blk_frozen hq 2
  have HQ := Lib.hid hq
  clear hq
  go_enter Try.func52, Try.ntmps52
  go_wp2
  go_still_tail 10, (by kernel_rfl)
  still_call (clamp_p now _)
  repeat still_step
  refine wpStill_nil ?_
  change wpList _ _ _ _ _ w.drew
  go_wp2
  go_quiet (fail)
  go_wp2
  go_ret
  have hq := HQ.out
  refine ⟨rfl, ?_, ?_⟩
  · exact (blk_set hq 2 _)
  · exact (((Only.refl (fun i => i = g) w).setCell (.inl rfl) _).drew).drewN _

theorem new_ok (p b : Int) (w : World) (hp : 1 ≤ p ∧ p ≤ 1000000) (hb : 1 ≤ b ∧ b ≤ 1000) :
    Calls Try.prog 36 #[.int .i64 p, .int .i64 b] w fun e w' => e = .returned (.tuple #[.pointer (some ⟨w.heap.size, 0, none⟩), .int .i64 0]) ∧ Q57 w' w.heap.size p b 0 0 ∧ Only (fun _ => False) w w' := by
  obtain ⟨hp1, hp2⟩ := hp
  obtain ⟨hb1, hb2⟩ := hb
  go_enter Try.func36, Try.ntmps36
  go_wp2
  go_ret2
  exact ⟨rfl, heap_alloc_new w _, (Only.refl _ w).alloc _⟩

theorem new_no (p b : Int) (w : World) (h : ¬ (1 ≤ p ∧ p ≤ 1000000 ∧ 1 ≤ b ∧ b ≤ 1000)) :
    Calls Try.prog 36 #[.int .i64 p, .int .i64 b] w fun e w' => e = .returned (.tuple #[.pointer none, .int .i64 2]) ∧ w' = w := by
  have hd : p < 1 ∨ ¬ p < 1 ∧ 1000000 < p ∨ ¬ p < 1 ∧ ¬ 1000000 < p ∧ b < 1 ∨ ¬ p < 1 ∧ ¬ 1000000 < p ∧ ¬ b < 1 ∧ 1000 < b := by omega
  clear h
  rcases hd with h | ⟨h1, h⟩ | ⟨h1, h2, h⟩ | ⟨h1, h2, h3, h⟩
  all_goals
    go_enter Try.func36, Try.ntmps36
    go_wp2
    go_ret2
    exact ⟨rfl, rfl⟩

theorem take_nil (now : Int) (w : World) : Calls Try.prog 38 #[.pointer none, .int .i64 now] w fun e w' => e = .returned (.tuple #[.bool false, .int .i64 0]) ∧ w' = w := by
  go_enter Try.func38, Try.ntmps38
  go_wp2
  go_ret2
  exact ⟨rfl, rfl⟩

theorem left_nil (now : Int) (w : World) : Calls Try.prog 39 #[.pointer none, .int .i64 now] w fun e w' => e = .returned (.int .i64 0) ∧ w' = w := by
  go_enter Try.func39, Try.ntmps39
  go_wp2
  go_ret
  exact ⟨rfl, rfl⟩

/-- Given? -/
def tkb (p b n m now : Int) : Bool := decide (ovr p n m now 1 ≤ wrap64 (b * p))
def tkw (p b n m now : Int) : Int := if tkb p b n m now = true then 0 else wrap64 (ovr p n m now 1 - wrap64 (b * p))
def tkm (p b n m now : Int) : Int := if tkb p b n m now = true then wrap64 (ovn n now + ovr p n m now 1) else m

set_option maxHeartbeats 1000000 in
theorem take_p (g : Nat) (p b n m now : Int) (w : World) (hq : Q57 w g p b n m) :
    Calls Try.prog 38 #[.pointer (some ⟨g, 0, none⟩), .int .i64 now] w fun e w' => e = .returned (.tuple #[.bool (tkb p b n m now), .int .i64 (tkw p b n m now)]) ∧ Q57 w' g p b (ovn n now) (tkm p b n m now) ∧ Only (fun i => i = g) w w' := by
  have HQ := Lib.hid hq
  clear hq
  by_cases hc : ovr p n m now 1 ≤ wrap64 (b * p)
  · have e1 : tkb p b n m now = true := decide_eq_true hc
    have HE := Lib.hid (show tkb p b n m now = true ∧ tkw p b n m now = 0 ∧ tkm p b n m now = wrap64 (ovn n now + ovr p n m now 1) from ⟨e1, by unfold tkw; rw [if_pos e1], by unfold tkm; rw [if_pos e1]⟩)
    clear e1
    have hcn : ¬ wrap64 (b * p) < ovr p n m now 1 := by omega
    go_enter Try.func38, Try.ntmps38
    go_wp2_with (go_at_call 52; refine (over_p g p b n m now 1 _ HQ.out).mono ?_; rintro e w1 ⟨rfl, hq1, ho1⟩; have HQ1 := Lib.hid hq1; have HO1 := Lib.hid ho1; have hc0 : w1.cell? ⟨g, 0, none⟩ = some (.int .i64 p) := cell_at hq1 0 rfl; have hc1 : w1.cell? ⟨g, 1, none⟩ = some (.int .i64 b) := cell_at hq1 1 rfl; have hc2 : w1.cell? ⟨g, 2, none⟩ = some (.int .i64 (ovn n now)) := cell_at hq1 2 rfl; have hc3 : w1.cell? ⟨g, 3, none⟩ = some (.int .i64 m) := cell_at hq1 3 rfl; have hf3 : w1.frozen? ⟨g, 3, none⟩ = false := blk_frozen hq1 3; clear hq1 ho1)
    go_quiet (fail)
    go_wp2
    go_ret2
    obtain ⟨e1, e2, e3⟩ := HE.out
    rw [e1, e2, e3]
    refine ⟨rfl, ?_, ?_⟩
    · exact blk_set HQ1.out 3 _
    · exact (HO1.out.drewN _).setCell (.inl rfl) _
  · have e1 : tkb p b n m now = false := decide_eq_false hc
    have HE := Lib.hid (show tkb p b n m now = false ∧ tkw p b n m now = wrap64 (ovr p n m now 1 - wrap64 (b * p)) ∧ tkm p b n m now = m from ⟨e1, by unfold tkw; rw [if_neg (by rw [e1]; decide)], by unfold tkm; rw [if_neg (by rw [e1]; decide)]⟩)
    clear e1
    have hcn : wrap64 (b * p) < ovr p n m now 1 := by omega
    go_enter Try.func38, Try.ntmps38
    go_wp2_with (go_at_call 52; refine (over_p g p b n m now 1 _ HQ.out).mono ?_; rintro e w1 ⟨rfl, hq1, ho1⟩; have HQ1 := Lib.hid hq1; have HO1 := Lib.hid ho1; have hc0 : w1.cell? ⟨g, 0, none⟩ = some (.int .i64 p) := cell_at hq1 0 rfl; have hc1 : w1.cell? ⟨g, 1, none⟩ = some (.int .i64 b) := cell_at hq1 1 rfl; clear hq1 ho1)
    go_quiet (fail)
    go_wp2
    go_ret2
    obtain ⟨e1, e2, e3⟩ := HE.out
    rw [e1, e2, e3]
    exact ⟨rfl, HQ1.out, HO1.out.drewN _⟩

/-- How many would be given at once. -/
def lft (p b n m now : Int) : Int := wrap64 (Int.tdiv (wrap64 (wrap64 (b * p) - ovr p n m now 0)) p)

set_option maxHeartbeats 1000000 in
theorem left_p (g : Nat) (p b n m now : Int) (w : World) (hp : 1 ≤ p) (hq : Q57 w g p b n m) :
    Calls Try.prog 39 #[.pointer (some ⟨g, 0, none⟩), .int .i64 now] w fun e w' => e = .returned (.int .i64 (lft p b n m now)) ∧ Q57 w' g p b (ovn n now) m ∧ Only (fun i => i = g) w w' := by
  have HQ := Lib.hid hq
  have hc0 : w.cell? ⟨g, 0, none⟩ = some (.int .i64 p) := cell_at hq 0 rfl
  have hc1 : w.cell? ⟨g, 1, none⟩ = some (.int .i64 b) := cell_at hq 1 rfl
  have hpz : (p == 0) = false := by simp; omega
  have hpz2 : p ≠ 0 := by omega
  clear hq hp
  go_enter Try.func39, Try.ntmps39
  go_wp2
  go_region_held3 (fun w' => w'.cell? ⟨g, 0, none⟩ = some (.int .i64 p) ∧ w'.cell? ⟨g, 1, none⟩ = some (.int .i64 b)) (first | exact ⟨hc0, hc1⟩ | exact ⟨hc0', hc1'⟩) (first | (go_at_call 52; refine (over_p g p b n m now 0 _ (by exact HQ.out)).mono ?_; rintro e w1 ⟨rfl, hq1, ho1⟩; have HQ1 := Lib.hid hq1; have HO1 := Lib.hid ho1; have hc0' : w1.cell? ⟨g, 0, none⟩ = some (.int .i64 p) := cell_at hq1 0 rfl; have hc1' : w1.cell? ⟨g, 1, none⟩ = some (.int .i64 b) := cell_at hq1 1 rfl; clear hq1 ho1))
  go_wp2
  go_ret
  exact ⟨ret_int (by simp only [wrap_i64]; rfl), HQ1.out, ((Only.refl _ w).drew).trans HO1.out⟩

theorem clamp_r (a : Int) (w : World) : Calls Try.prog 24 #[.int .i64 a] w fun e w' => e = .returned (.int .i64 (cl a)) ∧ w' = w := by
  by_cases h1 : a < 0
  · have h : 0 = cl a := by unfold cl; rw [if_pos h1]
    go_enter Try.func24, Try.ntmps24
    go_wp2
    go_ret
    exact ⟨ret_int h, rfl⟩
  · by_cases h2 : 1125899906842624 < a
    · have h : 1125899906842624 = cl a := by unfold cl; rw [if_neg h1, if_pos h2]
      go_enter Try.func24, Try.ntmps24
      go_wp2
      go_ret
      exact ⟨ret_int rfl, rfl⟩
    · have h : a = cl a := by unfold cl; rw [if_neg h1, if_neg h2]
      have H := Lib.hid h
      clear h
      go_enter Try.func24, Try.ntmps24
      go_wp2
      go_ret
      exact ⟨ret_int H.out, rfl⟩

/-- The reference's cells: period, burst, now, mark. -/
def Q49 (w : World) (g : Nat) (p b n m : Int) : Prop := w.heap[g]? = some (.cells #[.int .i64 p, .int .i64 b, .int .i64 n, .int .i64 m] 49 (0, 0))

set_option maxHeartbeats 1000000 in
theorem on_r (g : Nat) (p b n m now : Int) (w : World) (hq : Q49 w g p b n m) :
    Calls Try.prog 53 #[.pointer (some ⟨g, 0, none⟩), .int .i64 now] w fun e w' => e = .returned (.int .i64 (mx m (ovn n now))) ∧ Q49 w' g p b (ovn n now) m ∧ Only (fun i => i = g) w w' := by
  have HQ := Lib.hid hq
  have hc2 : w.cell? ⟨g, 2, none⟩ = some (.int .i64 n) := cell_at hq 2 rfl
  have hc3 : w.cell? ⟨g, 3, none⟩ = some (.int .i64 m) := cell_at hq 3 rfl
  have hf2 : w.frozen? ⟨g, 2, none⟩ = false := blk_frozen hq 2
  clear hq
  by_cases h1 : n < cl now
  · have HE := Lib.hid (show ovn n now = cl now by unfold ovn mx; rw [if_pos h1])
    by_cases h2 : cl now < m
    · have HM := Lib.hid (show mx m (cl now) = m by unfold mx; rw [if_neg (by omega)])
      go_enter Try.func53, Try.ntmps53
      go_wp2
      go_quiet ((go_at_call 24; exact Calls.quiet_of_same (clamp_r _ _)))
      go_wp2_with (go_at_call 24; refine (clamp_r _ _).mono ?_; rintro e w' ⟨rfl, rfl⟩)
      go_quiet (fail)
      go_wp2
      go_ret
      rw [HE.out, HM.out]
      refine ⟨rfl, ?_, ?_⟩
      · exact blk_set HQ.out 2 _
      · exact ((((Only.refl (fun i => i = g) w).drewN _).setCell (.inl rfl) _)).drewN _
    · have HM := Lib.hid (show mx m (cl now) = cl now by unfold mx; split <;> omega)
      go_enter Try.func53, Try.ntmps53
      go_wp2
      go_quiet ((go_at_call 24; exact Calls.quiet_of_same (clamp_r _ _)))
      go_wp2_with (go_at_call 24; refine (clamp_r _ _).mono ?_; rintro e w' ⟨rfl, rfl⟩)
      go_quiet (fail)
      go_wp2
      go_ret
      rw [HE.out, HM.out]
      refine ⟨rfl, ?_, ?_⟩
      · exact blk_set HQ.out 2 _
      · exact ((((Only.refl (fun i => i = g) w).drewN _).setCell (.inl rfl) _)).drewN _
  · have HE := Lib.hid (show ovn n now = n by unfold ovn mx; rw [if_neg h1])
    by_cases h2 : n < m
    · have HM := Lib.hid (show mx m n = m by unfold mx; rw [if_neg (by omega)])
      go_enter Try.func53, Try.ntmps53
      go_wp2
      go_quiet ((go_at_call 24; exact Calls.quiet_of_same (clamp_r _ _)))
      go_wp2
      go_quiet (fail)
      go_wp2
      go_ret
      rw [HE.out, HM.out]
      refine ⟨rfl, ?_, ?_⟩
      · exact HQ.out
      · exact (Only.refl (fun i => i = g) w).drewN _
    · have HM := Lib.hid (show mx m n = n by unfold mx; split <;> omega)
      go_enter Try.func53, Try.ntmps53
      go_wp2
      go_quiet ((go_at_call 24; exact Calls.quiet_of_same (clamp_r _ _)))
      go_wp2
      go_quiet (fail)
      go_wp2
      go_ret
      rw [HE.out, HM.out]
      refine ⟨rfl, ?_, ?_⟩
      · exact HQ.out
      · exact (Only.refl (fun i => i = g) w).drewN _

/-- The reference's answers. -/
def rtx (p n m now : Int) : Int := wrap64 (mx m (ovn n now) + p)
def rtw0 (p b n m now : Int) : Int := wrap64 (wrap64 (rtx p n m now - ovn n now) - wrap64 (b * p))
def rtb (p b n m now : Int) : Bool := decide (rtw0 p b n m now ≤ 0)
def rtw (p b n m now : Int) : Int := if rtb p b n m now = true then 0 else rtw0 p b n m now
def rtm (p b n m now : Int) : Int := if rtb p b n m now = true then rtx p n m now else m

set_option maxHeartbeats 1000000 in
theorem take_r (g : Nat) (p b n m now : Int) (w : World) (hq : Q49 w g p b n m) :
    Calls Try.prog 41 #[.pointer (some ⟨g, 0, none⟩), .int .i64 now] w fun e w' => e = .returned (.tuple #[.bool (rtb p b n m now), .int .i64 (rtw p b n m now)]) ∧ Q49 w' g p b (ovn n now) (rtm p b n m now) ∧ Only (fun i => i = g) w w' := by
  have HQ := Lib.hid hq
  have hc0 : w.cell? ⟨g, 0, none⟩ = some (.int .i64 p) := cell_at hq 0 rfl
  clear hq
  by_cases hc : rtw0 p b n m now ≤ 0
  · have e1 : rtb p b n m now = true := decide_eq_true hc
    have HE := Lib.hid (show rtb p b n m now = true ∧ rtw p b n m now = 0 ∧ rtm p b n m now = rtx p n m now from ⟨e1, by unfold rtw; rw [if_pos e1], by unfold rtm; rw [if_pos e1]⟩)
    clear e1
    have hcn : ¬ 0 < wrap64 (wrap64 (wrap64 (mx m (ovn n now) + p) - ovn n now) - wrap64 (b * p)) := by unfold rtw0 rtx at hc; omega
    clear hc
    have hw := wrap_i64 (mx m (ovn n now) + p)
    go_enter Try.func41, Try.ntmps41
    go_wp2
    go_region_held3 (fun w' => w'.cell? ⟨g, 0, none⟩ = some (.int .i64 p)) (first | exact hc0 | exact hc0') (first | (go_at_call 53; refine (on_r g p b n m now _ (by exact HQ.out)).mono ?_; rintro e w1 ⟨rfl, hq1, ho1⟩; have HQ1 := Lib.hid hq1; have HO1 := Lib.hid ho1; have hc0' : w1.cell? ⟨g, 0, none⟩ = some (.int .i64 p) := cell_at hq1 0 rfl; have hc1' : w1.cell? ⟨g, 1, none⟩ = some (.int .i64 b) := cell_at hq1 1 rfl; have hc2' : w1.cell? ⟨g, 2, none⟩ = some (.int .i64 (ovn n now)) := cell_at hq1 2 rfl; have hc3' : w1.cell? ⟨g, 3, none⟩ = some (.int .i64 m) := cell_at hq1 3 rfl; have hf3' : w1.frozen? ⟨g, 3, none⟩ = false := blk_frozen hq1 3; clear hq1 ho1))
    go_wp2
    go_quiet (fail)
    go_wp2
    go_ret2
    obtain ⟨e1, e2, e3⟩ := HE.out
    rw [e1, e2, e3]
    refine ⟨rfl, ?_, ?_⟩
    · exact blk_set HQ1.out 3 _
    · exact ((((Only.refl (fun i => i = g) w).drew).trans HO1.out).drewN _).setCell (.inl rfl) _
  · have e1 : rtb p b n m now = false := decide_eq_false hc
    have HE := Lib.hid (show rtb p b n m now = false ∧ rtw p b n m now = rtw0 p b n m now ∧ rtm p b n m now = m from ⟨e1, by unfold rtw; rw [if_neg (by rw [e1]; decide)], by unfold rtm; rw [if_neg (by rw [e1]; decide)]⟩)
    clear e1
    have hcn : 0 < wrap64 (wrap64 (wrap64 (mx m (ovn n now) + p) - ovn n now) - wrap64 (b * p)) := by unfold rtw0 rtx at hc; omega
    clear hc
    have hw := wrap_i64 (mx m (ovn n now) + p)
    go_enter Try.func41, Try.ntmps41
    go_wp2
    go_region_held3 (fun w' => w'.cell? ⟨g, 0, none⟩ = some (.int .i64 p)) (first | exact hc0 | exact hc0') (first | (go_at_call 53; refine (on_r g p b n m now _ (by exact HQ.out)).mono ?_; rintro e w1 ⟨rfl, hq1, ho1⟩; have HQ1 := Lib.hid hq1; have HO1 := Lib.hid ho1; have hc0' : w1.cell? ⟨g, 0, none⟩ = some (.int .i64 p) := cell_at hq1 0 rfl; have hc1' : w1.cell? ⟨g, 1, none⟩ = some (.int .i64 b) := cell_at hq1 1 rfl; have hc2' : w1.cell? ⟨g, 2, none⟩ = some (.int .i64 (ovn n now)) := cell_at hq1 2 rfl; clear hq1 ho1))
    go_wp2
    go_quiet (fail)
    go_wp2
    go_ret2
    obtain ⟨e1, e2, e3⟩ := HE.out
    rw [e1, e2, e3]
    refine ⟨rfl, HQ1.out, ?_⟩
    exact (((Only.refl (fun i => i = g) w).drew).trans HO1.out).drewN _

/-- What holds of a quota: its numbers in their bounds, the mark at most a burst behind the time. -/
structure Inv (p b n m : Int) : Prop where
  p1 : 1 ≤ p
  p2 : p ≤ 1000000
  b1 : 1 ≤ b
  b2 : b ≤ 1000
  n1 : 0 ≤ n
  n2 : n ≤ 1125899906842624
  m1 : 0 ≤ m
  m2 : m ≤ n + b * p

theorem bp_bounds {p b : Int} (h1 : 1 ≤ p) (h2 : p ≤ 1000000) (h3 : 1 ≤ b) (h4 : b ≤ 1000) : p ≤ b * p ∧ b * p ≤ 1000000000 := by
  constructor
  · have := Int.mul_le_mul_of_nonneg_right h3 (show 0 ≤ p by omega); omega
  · have := Int.mul_le_mul h4 h2 (by omega) (by omega); omega

theorem ovn_bounds {n : Int} (now : Int) (h1 : 0 ≤ n) (h2 : n ≤ 1125899906842624) : n ≤ ovn n now ∧ cl now ≤ ovn n now ∧ ovn n now ≤ 1125899906842624 := by
  have := cl_bounds now
  unfold ovn
  rcases mx_cases n (cl now) with h | h <;> omega

theorem ovr_k {p b n m : Int} (h : Inv p b n m) (now k : Int) (hk : k = 0 ∨ k = 1) : ovr p n m now k = mx m (ovn n now) + k * p - ovn n now := by
  have hb := bp_bounds h.p1 h.p2 h.b1 h.b2
  have ho := ovn_bounds now h.n1 h.n2
  obtain ⟨_, _, _, _, _, _, _, _⟩ := h
  unfold ovr
  have hkp : k * p = 0 ∨ k * p = p := by rcases hk with rfl | rfl <;> simp
  generalize ovn n now = x at *
  generalize b * p = y at *
  generalize k * p = z at *
  have hm : mx m x = m ∧ x ≤ m ∨ mx m x = x ∧ m < x := mx_cases m x
  generalize mx m x = v at *
  unfold wrap64
  omega

theorem bp_wrap {p b n m : Int} (h : Inv p b n m) : wrap64 (b * p) = b * p := by
  have hb := bp_bounds h.p1 h.p2 h.b1 h.b2
  obtain ⟨_, _, _, _, _, _, _, _⟩ := h
  unfold wrap64
  omega

/-- How far the mark would be. -/
def far (p n m now : Int) : Int := mx m (ovn n now) + p - ovn n now

theorem tk_facts {p b n m : Int} (h : Inv p b n m) (now : Int) :
    (tkb p b n m now = true ↔ far p n m now ≤ b * p) ∧ (tkb p b n m now = true → tkw p b n m now = 0 ∧ tkm p b n m now = mx m (ovn n now) + p) ∧
    (tkb p b n m now = false → tkw p b n m now = far p n m now - b * p ∧ tkm p b n m now = m) ∧ Inv p b (ovn n now) (tkm p b n m now) := by
  have ho := ovn_bounds now h.n1 h.n2
  have hb := bp_bounds h.p1 h.p2 h.b1 h.b2
  have e0 := ovr_k h now 1 (.inr rfl)
  have e1 := bp_wrap h
  have hI := h
  obtain ⟨_, _, _, _, _, _, _, _⟩ := h
  have hm : mx m (ovn n now) = m ∧ ovn n now ≤ m ∨ mx m (ovn n now) = ovn n now ∧ m < ovn n now := mx_cases m (ovn n now)
  rw [Int.one_mul] at e0
  by_cases hc : tkb p b n m now = true
  · have hc2 := hc
    unfold tkb at hc2
    rw [e0, e1] at hc2
    have hc3 := of_decide_eq_true hc2
    have em : tkm p b n m now = mx m (ovn n now) + p := by
      unfold tkm; rw [if_pos hc, e0]
      generalize ovn n now = x at *
      generalize b * p = y at *
      generalize mx m x = v at *
      unfold wrap64; omega
    refine ⟨⟨fun _ => by unfold far; omega, fun _ => hc⟩, fun _ => ⟨by unfold tkw; rw [if_pos hc], em⟩, fun hf => (by rw [hc] at hf; cases hf), ?_⟩
    rw [em]
    exact ⟨by omega, by omega, by omega, by omega, by omega, by omega, by omega, by omega⟩
  · have hf : tkb p b n m now = false := Bool.eq_false_iff.2 hc
    have hc2 := hf
    unfold tkb at hc2
    rw [e0, e1] at hc2
    have hc3 := of_decide_eq_false hc2
    have em : tkm p b n m now = m := by unfold tkm; rw [if_neg hc]
    refine ⟨⟨fun hh => absurd hh hc, fun hh => by unfold far at hh; omega⟩, fun hh => absurd hh hc, fun _ => ⟨?_, em⟩, ?_⟩
    · unfold tkw far
      rw [if_neg hc, e0, e1]
      generalize ovn n now = x at *
      generalize b * p = y at *
      generalize mx m x = v at *
      unfold wrap64; omega
    · rw [em]
      exact ⟨by omega, by omega, by omega, by omega, by omega, by omega, by omega, by omega⟩

/-- The reference takes as the program does. -/
theorem rt_same {p b n m : Int} (h : Inv p b n m) (now : Int) : rtb p b n m now = tkb p b n m now ∧ rtw p b n m now = tkw p b n m now ∧ rtm p b n m now = tkm p b n m now := by
  have ho := ovn_bounds now h.n1 h.n2
  have hb := bp_bounds h.p1 h.p2 h.b1 h.b2
  have e0 := ovr_k h now 1 (.inr rfl)
  have e1 := bp_wrap h
  obtain ⟨_, _, _, _, _, _, _, _⟩ := h
  have hm : mx m (ovn n now) = m ∧ ovn n now ≤ m ∨ mx m (ovn n now) = ovn n now ∧ m < ovn n now := mx_cases m (ovn n now)
  rw [Int.one_mul] at e0
  have ex : rtx p n m now = mx m (ovn n now) + p := by
    unfold rtx
    generalize ovn n now = x at *
    generalize b * p = y at *
    generalize mx m x = v at *
    unfold wrap64; omega
  have ew : rtw0 p b n m now = mx m (ovn n now) + p - ovn n now - b * p := by
    unfold rtw0
    rw [ex, e1]
    generalize ovn n now = x at *
    generalize b * p = y at *
    generalize mx m x = v at *
    unfold wrap64; omega
  have eb : rtb p b n m now = tkb p b n m now := by
    unfold rtb tkb
    rw [ew, e0, e1, decide_eq_decide]; omega
  refine ⟨eb, ?_, ?_⟩
  · unfold rtw tkw
    rw [eb, ew, e0, e1]
    split
    · rfl
    · generalize ovn n now = x at *
      generalize b * p = y at *
      generalize mx m x = v at *
      unfold wrap64; omega
  · unfold rtm tkm
    rw [eb, ex, e0]
    split
    · generalize ovn n now = x at *
      generalize b * p = y at *
      generalize mx m x = v at *
      unfold wrap64; omega
    · rfl

/-- How many would be given at once. -/
def lf (p b n m now : Int) : Int := (b * p - (mx m (ovn n now) - ovn n now)) / p

theorem lf_bounds {p b n m : Int} (h : Inv p b n m) (now : Int) : 0 ≤ b * p - (mx m (ovn n now) - ovn n now) ∧ 0 ≤ lf p b n m now ∧ lf p b n m now ≤ b := by
  have hb := bp_bounds h.p1 h.p2 h.b1 h.b2
  have ho := ovn_bounds now h.n1 h.n2
  obtain ⟨_, _, _, _, _, _, _, _⟩ := h
  have hm : mx m (ovn n now) = m ∧ ovn n now ≤ m ∨ mx m (ovn n now) = ovn n now ∧ m < ovn n now := mx_cases m (ovn n now)
  have h0 : 0 ≤ b * p - (mx m (ovn n now) - ovn n now) := by omega
  refine ⟨h0, Int.ediv_nonneg h0 (by omega), ?_⟩
  unfold lf
  exact Int.ediv_le_of_le_mul (by omega) (by omega)

theorem lft_eq {p b n m : Int} (h : Inv p b n m) (now : Int) : lft p b n m now = lf p b n m now := by
  have ho := ovn_bounds now h.n1 h.n2
  have hb := bp_bounds h.p1 h.p2 h.b1 h.b2
  have e0 := ovr_k h now 0 (.inl rfl)
  have e1 := bp_wrap h
  have hl := lf_bounds h now
  obtain ⟨_, _, _, _, _, _, _, _⟩ := h
  have hm : mx m (ovn n now) = m ∧ ovn n now ≤ m ∨ mx m (ovn n now) = ovn n now ∧ m < ovn n now := mx_cases m (ovn n now)
  unfold lft
  rw [e0, e1]
  have e2 : wrap64 (b * p - (mx m (ovn n now) + 0 * p - ovn n now)) = b * p - (mx m (ovn n now) - ovn n now) := by
    rw [Int.zero_mul]
    generalize ovn n now = x at *
    generalize b * p = y at *
    generalize mx m x = v at *
    unfold wrap64; omega
  rw [e2, Int.tdiv_eq_ediv_of_nonneg hl.1]
  show wrap64 (lf p b n m now) = _
  unfold wrap64; omega

end Go.Proofs.Ythleomamdaijdaa.Quo

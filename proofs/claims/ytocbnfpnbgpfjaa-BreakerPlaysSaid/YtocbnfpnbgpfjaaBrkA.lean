/- The contract of breaker's Allow. -/
import Derived.Test.YtocbnfpnbgpfjaaBrk
set_option linter.unusedVariables false
set_option linter.unusedSimpArgs false
namespace Go.Proofs.Ytocbnfpnbgpfjaa.Brk
open Go.RowKit Go.Proofs.Ytocbnfpnbgpfjaa.Base Go.Proofs.YtocbnfpnbgpfjaaW.PrintWords Go.Proofs.YtocbnfpnbgpfjaaW.PrintMore
attribute [local go_sem] max2_mx min2_mn max_two min_two max_three min_three max_four min_four

section
variable (g : Nat) (s f r p now un : Int) (v : Value) (out good t : Int) (w : World)

/-- Closed: everybody. -/
theorem allow_0 (hb : B46 w g s f r p 0 now un v out good) (hs : 1 ≤ s) :
    Calls Try.prog 10 #[.pointer (some ⟨g, 0, none⟩), .int .i64 t] w fun e w' => e = .returned (.bool true) ∧ B46 w' g s f r p 0 (mx now (cl t)) un v out good ∧ Only (fun i => i = g) w w' := by
  have HB := Lib.hid hb
  clear hb
  go_enter Try.func10, Try.ntmps10
  go_wp2_with (first | (go_at_call 18; refine (none_p _ _ _ _ _ _ _ _ _ _ _ _ HB.out hs).mono ?_; rintro e w' ⟨rfl, rfl⟩) | (go_at_call 19; refine (at_p _ _ _ _ _ _ _ _ _ _ _ _ _ HB.out).mono ?_; rintro e w1 ⟨rfl, hb1, ho1⟩; have HB1 := Lib.hid hb1; have HO1 := Lib.hid ho1; have hc4 : w1.cell? ⟨g, 4, none⟩ = some (.int .i64 0) := cell_at hb1 4 rfl; clear hb1 ho1))
  go_ret
  exact ⟨rfl, HB1.out, HO1.out⟩

/-- Open, and not rested: nobody. -/
theorem allow_1 (hb : B46 w g s f r p 1 now un v out good) (hs : 1 ≤ s) (hu : mx now (cl t) < un) :
    Calls Try.prog 10 #[.pointer (some ⟨g, 0, none⟩), .int .i64 t] w fun e w' => e = .returned (.bool false) ∧ B46 w' g s f r p 1 (mx now (cl t)) un v out good ∧ Only (fun i => i = g) w w' := by
  have HB := Lib.hid hb
  clear hb
  go_enter Try.func10, Try.ntmps10
  go_wp2_with (first | (go_at_call 18; refine (none_p _ _ _ _ _ _ _ _ _ _ _ _ HB.out hs).mono ?_; rintro e w' ⟨rfl, rfl⟩) | (go_at_call 19; refine (at_p _ _ _ _ _ _ _ _ _ _ _ _ _ HB.out).mono ?_; rintro e w1 ⟨rfl, hb1, ho1⟩; have HB1 := Lib.hid hb1; have HO1 := Lib.hid ho1; have hc4 : w1.cell? ⟨g, 4, none⟩ = some (.int .i64 1) := cell_at hb1 4 rfl; have hc5 : w1.cell? ⟨g, 5, none⟩ = some (.int .i64 (mx now (cl t))) := cell_at hb1 5 rfl; have hc6 : w1.cell? ⟨g, 6, none⟩ = some (.int .i64 un) := cell_at hb1 6 rfl; clear hb1 ho1))
  go_quiet (fail)
  go_wp2
  go_ret
  exact ⟨rfl, HB1.out, HO1.out.drewN _⟩

/-- Half open, and as many through as may be: nobody. -/
theorem allow_2no (hb : B46 w g s f r p 2 now un v out good) (hs : 1 ≤ s) (hu : p ≤ out) :
    Calls Try.prog 10 #[.pointer (some ⟨g, 0, none⟩), .int .i64 t] w fun e w' => e = .returned (.bool false) ∧ B46 w' g s f r p 2 (mx now (cl t)) un v out good ∧ Only (fun i => i = g) w w' := by
  have HB := Lib.hid hb
  clear hb
  go_enter Try.func10, Try.ntmps10
  go_wp2_with (first | (go_at_call 18; refine (none_p _ _ _ _ _ _ _ _ _ _ _ _ HB.out hs).mono ?_; rintro e w' ⟨rfl, rfl⟩) | (go_at_call 19; refine (at_p _ _ _ _ _ _ _ _ _ _ _ _ _ HB.out).mono ?_; rintro e w1 ⟨rfl, hb1, ho1⟩; have HB1 := Lib.hid hb1; have HO1 := Lib.hid ho1; have hc4 : w1.cell? ⟨g, 4, none⟩ = some (.int .i64 2) := cell_at hb1 4 rfl; have hc8 : w1.cell? ⟨g, 8, none⟩ = some (.int .i64 out) := cell_at hb1 8 rfl; have hc3 : w1.cell? ⟨g, 3, none⟩ = some (.int .i64 p) := cell_at hb1 3 rfl; clear hb1 ho1))
  go_quiet (fail)
  go_wp2
  go_ret
  exact ⟨rfl, HB1.out, HO1.out.drewN _⟩

set_option maxHeartbeats 1000000 in
/-- Half open, and fewer through: one more. -/
theorem allow_2yes (hb : B46 w g s f r p 2 now un v out good) (hs : 1 ≤ s) (hu : out < p) (h0 : 0 ≤ out) (hp : p ≤ 16) :
    Calls Try.prog 10 #[.pointer (some ⟨g, 0, none⟩), .int .i64 t] w fun e w' => e = .returned (.bool true) ∧ B46 w' g s f r p 2 (mx now (cl t)) un v (out + 1) good ∧ Only (fun i => i = g) w w' := by
  have HB := Lib.hid hb
  have hpo : ¬ p ≤ out := by omega
  have hw : wrap64 (out + 1) = out + 1 := by unfold wrap64; omega
  clear hb
  go_enter Try.func10, Try.ntmps10
  go_wp2_with (first | (go_at_call 18; refine (none_p _ _ _ _ _ _ _ _ _ _ _ _ HB.out hs).mono ?_; rintro e w' ⟨rfl, rfl⟩) | (go_at_call 19; refine (at_p _ _ _ _ _ _ _ _ _ _ _ _ _ HB.out).mono ?_; rintro e w1 ⟨rfl, hb1, ho1⟩; have HB1 := Lib.hid hb1; have HO1 := Lib.hid ho1; have hc4 : w1.cell? ⟨g, 4, none⟩ = some (.int .i64 2) := cell_at hb1 4 rfl; have hc8 : w1.cell? ⟨g, 8, none⟩ = some (.int .i64 out) := cell_at hb1 8 rfl; have hf8 : w1.frozen? ⟨g, 8, none⟩ = false := blk_frozen hb1 8; have hc3 : w1.cell? ⟨g, 3, none⟩ = some (.int .i64 p) := cell_at hb1 3 rfl; clear hb1 ho1))
  go_quiet (fail)
  go_wp2
  go_ret
  refine ⟨rfl, ?_, (HO1.out.drewN _).setCell (.inl rfl) _⟩
  exact blk_set HB1.out 8 _

set_option maxHeartbeats 1000000 in
/-- Open, and rested: half open, one through. -/
theorem allow_1yes (hb : B46 w g s f r p 1 now un v out good) (hs : 1 ≤ s) (hu : ¬ mx now (cl t) < un) (hp : 1 ≤ p) :
    Calls Try.prog 10 #[.pointer (some ⟨g, 0, none⟩), .int .i64 t] w fun e w' => e = .returned (.bool true) ∧ B46 w' g s f r p 2 (mx now (cl t)) un (.slice none 0 0) 1 0 ∧ Only (fun i => i = g) w w' := by
  have HB := Lib.hid hb
  have hpo : ¬ p ≤ 0 := by omega
  clear hb
  go_enter Try.func10, Try.ntmps10
  go_wp2_with (first | (go_at_call 18; refine (none_p _ _ _ _ _ _ _ _ _ _ _ _ HB.out hs).mono ?_; rintro e w' ⟨rfl, rfl⟩) | (go_at_call 19; refine (at_p _ _ _ _ _ _ _ _ _ _ _ _ _ HB.out).mono ?_; rintro e w1 ⟨rfl, hb1, ho1⟩; have HB1 := Lib.hid hb1; have HO1 := Lib.hid ho1; have hc4 : w1.cell? ⟨g, 4, none⟩ = some (.int .i64 1) := cell_at hb1 4 rfl; have hc5 : w1.cell? ⟨g, 5, none⟩ = some (.int .i64 (mx now (cl t))) := cell_at hb1 5 rfl; have hc6 : w1.cell? ⟨g, 6, none⟩ = some (.int .i64 un) := cell_at hb1 6 rfl; clear hb1 ho1))
  go_quiet (fail)
  have HBq : Hid (B46 (w1.drewN nq) g s f r p 1 (mx now (cl t)) un v out good) := Lib.hid HB1.out
  have HOq : Hid (Only (fun i => i = g) w (w1.drewN nq)) := Lib.hid (HO1.out.drewN _)
  generalize w1.drewN nq = wq at *
  go_wp2_with (go_at_call 20; refine (become_p _ _ _ _ _ _ _ _ _ _ _ 2 _ HBq.out).mono ?_; rintro e w2 ⟨rfl, hb2, ho2⟩; have HB2 := Lib.hid hb2; have HO2 := Lib.hid (HOq.out.trans ho2); have hc8 : w2.cell? ⟨g, 8, none⟩ = some (.int .i64 0) := cell_at hb2 8 rfl; have hf8 : w2.frozen? ⟨g, 8, none⟩ = false := blk_frozen hb2 8; have hc3 : w2.cell? ⟨g, 3, none⟩ = some (.int .i64 p) := cell_at hb2 3 rfl; clear hb2 ho2)
  go_quiet (fail)
  go_wp2
  go_ret
  refine ⟨rfl, ?_, (HO2.out.drewN _).setCell (.inl rfl) _⟩
  exact blk_set HB2.out 8 _
end

end Go.Proofs.Ytocbnfpnbgpfjaa.Brk

/- The chapter's example, and what a breaker that is none answers. -/
import Derived.Test.YtocbnfpnbgpfjaaBrkU
set_option linter.unusedVariables false
set_option linter.unusedSimpArgs false
namespace Go.Proofs.Ytocbnfpnbgpfjaa.Brk
open Go.RowKit Go.Proofs.Ytocbnfpnbgpfjaa.Base Go.Proofs.YtocbnfpnbgpfjaaW.PrintWords Go.Proofs.YtocbnfpnbgpfjaaW.PrintMore
attribute [local go_sem] max2_mx min2_mn max_two min_two max_three min_three max_four min_four

theorem cfgA : Cfg 4 2 10 1 := by constructor <;> decide
def s0 : St := ⟨0, 0, 0, [], 0, 0⟩
def s1 : St := ⟨0, 5, 0, [false], 0, 0⟩
def s2 : St := ⟨1, 5, 15, [], 0, 0⟩
def s3 : St := ⟨1, 14, 15, [], 0, 0⟩
def s4 : St := ⟨2, 15, 15, [], 1, 0⟩
def s6 : St := ⟨0, 16, 15, [], 0, 0⟩
theorem e1 : doneM 4 2 10 1 s0 5 false = s1 := by rfl
theorem e2 : doneM 4 2 10 1 s1 5 false = s2 := by rfl
theorem e3 : allowM 1 s2 14 = (false, s3) := by rfl
theorem e4 : allowM 1 s3 15 = (true, s4) := by rfl
theorem e5 : allowM 1 s4 15 = (false, s4) := by rfl
theorem e6 : doneM 4 2 10 1 s4 16 true = s6 := by rfl
theorem e7 : allowM 1 s6 0 = (true, s6) := by rfl
theorem i0 : Inv 4 1 s0 := by constructor <;> simp [s0]
theorem i1 : Inv 4 1 s1 := by constructor <;> simp [s1]
theorem i2 : Inv 4 1 s2 := by constructor <;> simp [s2]
theorem i3 : Inv 4 1 s3 := by constructor <;> simp [s3]
theorem i4 : Inv 4 1 s4 := by constructor <;> simp [s4]
theorem i6 : Inv 4 1 s6 := by constructor <;> simp [s6]

section
variable {w : World} {B g : Nat}
theorem c1 (h : Ow w B g 4 2 10 1 s0) : Calls Try.prog 13 #[.pointer (some ⟨g, 0, none⟩), .int .i64 5, .bool false] w fun e w' => e = .returned (.int .i64 0) ∧ Ow w' B g 4 2 10 1 s1 ∧ Only (fun k => B ≤ k) w w' := by
  have := done_o h i0 cfgA 5 false
  rwa [e1] at this
theorem c2 (h : Ow w B g 4 2 10 1 s1) : Calls Try.prog 13 #[.pointer (some ⟨g, 0, none⟩), .int .i64 5, .bool false] w fun e w' => e = .returned (.int .i64 0) ∧ Ow w' B g 4 2 10 1 s2 ∧ Only (fun k => B ≤ k) w w' := by
  have := done_o h i1 cfgA 5 false
  rwa [e2] at this
theorem c3 (h : Ow w B g 4 2 10 1 s2) : Calls Try.prog 10 #[.pointer (some ⟨g, 0, none⟩), .int .i64 14] w fun e w' => e = .returned (.bool false) ∧ Ow w' B g 4 2 10 1 s3 ∧ Only (fun k => B ≤ k) w w' := by
  have := allow_o h i2 cfgA 14
  rwa [e3] at this
theorem c4 (h : Ow w B g 4 2 10 1 s3) : Calls Try.prog 10 #[.pointer (some ⟨g, 0, none⟩), .int .i64 15] w fun e w' => e = .returned (.bool true) ∧ Ow w' B g 4 2 10 1 s4 ∧ Only (fun k => B ≤ k) w w' := by
  have := allow_o h i3 cfgA 15
  rwa [e4] at this
theorem c5 (h : Ow w B g 4 2 10 1 s4) : Calls Try.prog 10 #[.pointer (some ⟨g, 0, none⟩), .int .i64 15] w fun e w' => e = .returned (.bool false) ∧ Ow w' B g 4 2 10 1 s4 ∧ Only (fun k => B ≤ k) w w' := by
  have := allow_o h i4 cfgA 15
  rwa [e5] at this
theorem c6 (h : Ow w B g 4 2 10 1 s4) : Calls Try.prog 13 #[.pointer (some ⟨g, 0, none⟩), .int .i64 16, .bool true] w fun e w' => e = .returned (.int .i64 0) ∧ Ow w' B g 4 2 10 1 s6 ∧ Only (fun k => B ≤ k) w w' := by
  have := done_o h i4 cfgA 16 true
  rwa [e6] at this
theorem c7 (h : Ow w B g 4 2 10 1 s6) : Calls Try.prog 10 #[.pointer (some ⟨g, 0, none⟩), .int .i64 0] w fun e w' => e = .returned (.bool true) ∧ Ow w' B g 4 2 10 1 s6 ∧ Only (fun k => B ≤ k) w w' := by
  have := allow_o h i6 cfgA 0
  rwa [e7] at this
theorem c8 (h : Ow w B g 4 2 10 1 s6) : Calls Try.prog 14 #[.pointer (some ⟨g, 0, none⟩)] w fun e w' => e = .returned (.int .i64 0) ∧ w = w' := state_o h cfgA
end

theorem only_new {S : Nat → Prop} {w w' : World} (h : Only (fun k => w.heap.size ≤ k) w w') : Only S w w' :=
  ⟨h.os, h.tape, h.output, h.size, fun i hi _ => h.block i hi (by omega)⟩

set_option maxHeartbeats 1000000 in
theorem awake_p (w : World) : Calls Try.prog 9 #[] w fun e w' => e = .returned (.bool true) ∧ Only (fun _ => False) w w' := by
  go_enter Try.func9, Try.ntmps9
  go_wp2_with fail
  refine (new_o w cfgA).mono ?_
  rintro e w0 ⟨rfl, h0, o0⟩
  have H0 : Hid (Ow w0 w.heap.size w.heap.size 4 2 10 1 s0) := Lib.hid h0
  have O0 : Hid (Only (fun k => w.heap.size ≤ k) w w0) := Lib.hid (o0.mono (fun _ h => h.elim))
  clear h0 o0
  go_wp2_with fail
  refine (c1 H0.out).mono ?_
  rintro e w1 ⟨rfl, h1, o1⟩
  have H1 := Lib.hid h1
  have O1 := Lib.hid (O0.out.trans o1)
  clear h1 o1 H0
  go_wp2_with fail
  refine (c2 H1.out).mono ?_
  rintro e w2 ⟨rfl, h2, o2⟩
  have H2 := Lib.hid h2
  have O2 := Lib.hid (O1.out.trans o2)
  clear h2 o2 H1
  go_wp2_with fail
  refine (c3 H2.out).mono ?_
  rintro e w3 ⟨rfl, h3, o3⟩
  have H3 := Lib.hid h3
  have O3 := Lib.hid (O2.out.trans o3)
  clear h3 o3 H2
  go_wp2_with fail
  refine (c4 H3.out).mono ?_
  rintro e w4 ⟨rfl, h4, o4⟩
  have H4 := Lib.hid h4
  have O4 := Lib.hid (O3.out.trans o4)
  clear h4 o4 H3
  go_wp2_with fail
  refine (c5 H4.out).mono ?_
  rintro e w5 ⟨rfl, h5, o5⟩
  have H5 := Lib.hid h5
  have O5 := Lib.hid (O4.out.trans o5)
  clear h5 o5 H4
  go_wp2_with fail
  refine (c6 H5.out).mono ?_
  rintro e w6 ⟨rfl, h6, o6⟩
  have H6 := Lib.hid h6
  have O6 := Lib.hid (O5.out.trans o6)
  clear h6 o6 H5
  go_wp2_with fail
  refine (c8 H6.out).mono ?_
  rintro e w7 ⟨rfl, rfl⟩
  go_wp2_with fail
  refine (c7 H6.out).mono ?_
  rintro e w7 ⟨rfl, h7, o7⟩
  have O7 := Lib.hid (O6.out.trans o7)
  clear h7 o7 H6
  go_wp2
  go_ret
  exact ⟨rfl, only_new O7.out⟩

theorem none_law (n : Int) (b : Bool) (w : World) : Calls Try.prog 6 #[.int .i64 n, .bool b] w fun e w' => e = .returned (.bool true) ∧ Below w.heap.size w w' := by
  go_enter Try.func6, Try.ntmps6
  go_wp2_with (first | (go_at_call 10; refine (allow_nil _ _).mono ?_; rintro e w' ⟨rfl, rfl⟩) | (go_at_call 13; refine (done_nil _ _ _).mono ?_; rintro e w' ⟨rfl, rfl⟩) | (go_at_call 14; refine (state_nil _).mono ?_; rintro e w' ⟨rfl, rfl⟩) | (go_at_call 9; refine (awake_p _).mono ?_; rintro e w1 ⟨rfl, ho⟩; have HO := Lib.hid ho; clear ho))
  go_ret
  exact ⟨rfl, HO.out.below (Below.refl _ _) (Nat.le_refl _) (fun _ h => h.elim)⟩

end Go.Proofs.Ytocbnfpnbgpfjaa.Brk

/- One who saw, of the call's own; the chapter's example. -/
import Derived.Test.YtlgibnjhegoefaaSnM
set_option linter.unusedVariables false
set_option linter.unusedSimpArgs false
namespace Go.Proofs.Ytlgibnjhegoefaa.Sn
open Go.RowKit Go.Maps Go.Proofs.Ytlgibnjhegoefaa.Base Go.Proofs.YtlgibnjhegoefaaW.PrintWords Go.Proofs.YtlgibnjhegoefaaW.PrintMore
attribute [local go_sem] max2_mx min2_mn max_two min_two max_three min_three max_four min_four

structure Sw (w : World) (B g b : Nat) (L : List (K4 × Int)) : Prop where
  s : SS w g b L
  g : B ≤ g
  b : B ≤ b

theorem Sw.lt {w : World} {B g b : Nat} {L : List (K4 × Int)} (h : Sw w B g b L) : B ≤ w.heap.size := by
  have := h.s.map.lt; have := h.b; omega

theorem new_o (w : World) : Calls Try.prog 7 #[] w fun e w' => ∃ g b, e = .returned (.pointer (some ⟨g, 0, none⟩)) ∧ Sw w' w.heap.size g b [] ∧ Only (fun _ => False) w w' :=
  (new_p w).mono fun e w' ⟨he, hs, ho⟩ => ⟨_, _, he, ⟨hs, by omega, Nat.le_refl _⟩, ho⟩

section
variable {w : World} {B g b : Nat} {L : List (K4 × Int)}
theorem mark_o (h : Sw w B g b L) (k : K4) (hk : k.wf) (u n : Int) (hL : L.length ≤ 1000) :
    Calls Try.prog 9 #[.pointer (some ⟨g, 0, none⟩), k.v, .int .i64 u, .int .i64 n] w fun e w' => e = .returned (.bool (markL L k u n).1) ∧ Sw w' B g b (markL L k u n).2 ∧ Only (fun k => B ≤ k) w w' :=
  (mark_p w h.s k hk u n hL).mono fun e w' ⟨he, hs, ho⟩ => ⟨he, ⟨hs, h.g, h.b⟩, ho.mono (fun _ e => e ▸ h.b)⟩

theorem has_o (h : Sw w B g b L) (k : K4) (hk : k.wf) : Calls Try.prog 13 #[.pointer (some ⟨g, 0, none⟩), k.v] w fun e w' => e = .returned (.bool (kept L k)) ∧ Sw w' B g b L ∧ Only (fun k => B ≤ k) w w' :=
  (has_p w h.s k hk).mono fun e w' ⟨he, ho⟩ => ⟨he, ⟨h.s.only ho (fun h => h) (fun h => h), h.g, h.b⟩, ho.mono (fun _ h => h.elim)⟩

theorem len_o (h : Sw w B g b L) : Calls Try.prog 10 #[.pointer (some ⟨g, 0, none⟩)] w fun e w' => e = .returned (.int .i64 (L.length : Int)) ∧ w = w' := len_p w h.s

theorem Sw.only {w' : World} {S : Nat → Prop} (h : Sw w B g b L) (k : Only S w w') (hS : ∀ i, S i → i < B) : Sw w' B g b L :=
  ⟨h.s.only k (fun e => by have := hS _ e; have := h.g; omega) (fun e => by have := hS _ e; have := h.b; omega), h.g, h.b⟩
end

def kA : K4 := ⟨0, 0, 0, 1⟩
theorem kA_wf : kA.wf := ⟨by decide, by decide, by decide, by decide⟩
theorem m1 : markL [] kA 10 5 = (true, [(kA, 10)]) := by decide
theorem m2 : markL [(kA, 10)] kA 10 6 = (false, [(kA, 10)]) := by decide
theorem m3 : markL [(kA, 10)] kA 10 10 = (false, []) := by decide

theorem c1 {w : World} {g b : Nat} (h : SS w g b []) : Calls Try.prog 9 #[.pointer (some ⟨g, 0, none⟩), .agg #[.int .i64 0, .int .i64 0, .int .i64 0, .int .i64 1], .int .i64 10, .int .i64 5] w fun e w' => e = .returned (.bool true) ∧ SS w' g b [(kA, 10)] ∧ Only (fun k => k = b) w w' := by
  have := mark_p w h kA kA_wf 10 5 (by simp)
  rwa [m1] at this
theorem c2 {w : World} {g b : Nat} (h : SS w g b [(kA, 10)]) : Calls Try.prog 9 #[.pointer (some ⟨g, 0, none⟩), .agg #[.int .i64 0, .int .i64 0, .int .i64 0, .int .i64 1], .int .i64 10, .int .i64 6] w fun e w' => e = .returned (.bool false) ∧ SS w' g b [(kA, 10)] ∧ Only (fun k => k = b) w w' := by
  have := mark_p w h kA kA_wf 10 6 (by simp)
  rwa [m2] at this
theorem c3 {w : World} {g b : Nat} (h : SS w g b [(kA, 10)]) : Calls Try.prog 9 #[.pointer (some ⟨g, 0, none⟩), .agg #[.int .i64 0, .int .i64 0, .int .i64 0, .int .i64 1], .int .i64 10, .int .i64 10] w fun e w' => e = .returned (.bool false) ∧ SS w' g b [] ∧ Only (fun k => k = b) w w' := by
  have := mark_p w h kA kA_wf 10 10 (by simp)
  rwa [m3] at this

set_option maxHeartbeats 1000000 in
theorem awake_p (w : World) : Calls Try.prog 11 #[] w fun e w' => e = .returned (.bool true) ∧ Only (fun _ => False) w w' := by
  go_enter Try.func11, Try.ntmps11
  go_wp2_with fail
  refine (new_p w).mono ?_
  rintro e w1 ⟨rfl, hs, ho⟩
  have hlt : w.heap.size < w1.heap.size := hs.map.lt
  have HO : Hid (Only (fun k => w.heap.size ≤ k) w (w1.alloc (.cells #[.int .i64 0, .int .i64 0, .int .i64 0, .int .i64 1] 25))) := Lib.hid ((ho.mono (fun _ h => h.elim)).alloc _)
  have HS : Hid (SS (w1.alloc (.cells #[.int .i64 0, .int .i64 0, .int .i64 0, .int .i64 1] 25)) (w.heap.size + 1) w.heap.size []) := Lib.hid (hs.only (S := fun _ => False) ((Only.refl _ w1).alloc _) (fun h => h) (fun h => h))
  have HK := Lib.hid (heap_alloc_new w1 (.cells #[.int .i64 0, .int .i64 0, .int .i64 0, .int .i64 1] 25))
  clear hs ho
  go_wp2_with fail
  generalize w1.alloc (.cells #[.int .i64 0, .int .i64 0, .int .i64 0, .int .i64 1] 25) = w2 at *
  generalize w1.heap.size = q at *
  have hne : q ≠ w.heap.size := by omega
  refine (c1 HS.out).mono ?_
  rintro e w3 ⟨rfl, h3, o3⟩
  have H3 := Lib.hid h3
  have O3 := Lib.hid (HO.out.trans (o3.mono (fun k e => Nat.le_of_eq e.symm)))
  have K3 := Lib.hid (o3.blk HK.out hne)
  have hk0 : w3.cell? ⟨q, 0, none⟩ = some (.int .i64 0) := cell_at K3.out 0 rfl
  have hk1 : w3.cell? ⟨q, 1, none⟩ = some (.int .i64 0) := cell_at K3.out 1 rfl
  have hk2 : w3.cell? ⟨q, 2, none⟩ = some (.int .i64 0) := cell_at K3.out 2 rfl
  have hk3 : w3.cell? ⟨q, 3, none⟩ = some (.int .i64 1) := cell_at K3.out 3 rfl
  clear h3 o3
  go_wp2_with fail
  refine (c2 H3.out).mono ?_
  rintro e w4 ⟨rfl, h4, o4⟩
  have H4 := Lib.hid h4
  have O4 := Lib.hid (O3.out.trans (o4.mono (fun k e => Nat.le_of_eq e.symm)))
  have K4 := Lib.hid (o4.blk K3.out hne)
  clear hk0 hk1 hk2 hk3
  have hk0 : w4.cell? ⟨q, 0, none⟩ = some (.int .i64 0) := cell_at K4.out 0 rfl
  have hk1 : w4.cell? ⟨q, 1, none⟩ = some (.int .i64 0) := cell_at K4.out 1 rfl
  have hk2 : w4.cell? ⟨q, 2, none⟩ = some (.int .i64 0) := cell_at K4.out 2 rfl
  have hk3 : w4.cell? ⟨q, 3, none⟩ = some (.int .i64 1) := cell_at K4.out 3 rfl
  clear h4 o4
  go_wp2_with fail
  refine (c3 H4.out).mono ?_
  rintro e w5 ⟨rfl, h5, o5⟩
  have H5 := Lib.hid h5
  have O5 := Lib.hid (O4.out.trans (o5.mono (fun k e => Nat.le_of_eq e.symm)))
  clear h5 o5
  go_wp2_with fail
  refine (len_p _ H5.out).mono ?_
  rintro e w6 ⟨rfl, rfl⟩
  go_wp2
  go_ret
  exact ⟨rfl, ⟨O5.out.os, O5.out.tape, O5.out.output, O5.out.size, fun i hi _ => O5.out.block i hi (by omega)⟩⟩

theorem clamp_r (a : Int) (w : World) : Calls Try.prog 8 #[.int .i64 a] w fun e w' => e = .returned (.int .i64 (cl a)) ∧ w' = w := by
  unfold cl
  split
  · go_enter Try.func8, Try.ntmps8
    go_wp2
    go_ret
    exact ⟨rfl, rfl⟩
  · split
    · go_enter Try.func8, Try.ntmps8
      go_wp2
      go_ret
      exact ⟨rfl, rfl⟩
    · go_enter Try.func8, Try.ntmps8
      go_wp2
      go_ret
      exact ⟨rfl, rfl⟩

end Go.Proofs.Ytlgibnjhegoefaa.Sn

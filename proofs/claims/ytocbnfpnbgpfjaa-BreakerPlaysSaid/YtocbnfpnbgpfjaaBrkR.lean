/- BreakerRests: the law's walk over the contracts. -/
import Derived.Test.YtocbnfpnbgpfjaaBrkN
import Derived.Test.YtocbnfpnbgpfjaaArgs
set_option linter.unusedVariables false
set_option linter.unusedSimpArgs false
namespace Go.Proofs.Ytocbnfpnbgpfjaa.Brk
open Go.RowKit Go.Proofs.Ytocbnfpnbgpfjaa.Base Go.Proofs.YtocbnfpnbgpfjaaW.PrintWords Go.Proofs.YtocbnfpnbgpfjaaW.PrintMore
attribute [local go_sem] max2_mx min2_mn max_two min_two max_three min_three max_four min_four

theorem new_bad (s f r p : Int) (w : World) (h : ¬ Cfg s f r p) :
    Calls Try.prog 7 #[.int .i64 s, .int .i64 f, .int .i64 r, .int .i64 p] w fun e w' => e = .returned (.tuple #[.pointer none, .int .i64 2]) ∧ w = w' := by
  by_cases h1 : s < 1
  · go_enter Try.func7, Try.ntmps7
    go_wp2
    go_ret2
    exact ⟨rfl, rfl⟩
  by_cases h2 : 64 < s
  · go_enter Try.func7, Try.ntmps7
    go_wp2
    go_ret2
    exact ⟨rfl, rfl⟩
  by_cases h3 : f < 1
  · go_enter Try.func7, Try.ntmps7
    go_wp2
    go_ret2
    exact ⟨rfl, rfl⟩
  by_cases h4 : s < f
  · go_enter Try.func7, Try.ntmps7
    go_wp2
    go_ret2
    exact ⟨rfl, rfl⟩
  by_cases h5 : r < 1
  · go_enter Try.func7, Try.ntmps7
    go_wp2
    go_ret2
    exact ⟨rfl, rfl⟩
  by_cases h6 : 1000000 < r
  · go_enter Try.func7, Try.ntmps7
    go_wp2
    go_ret2
    exact ⟨rfl, rfl⟩
  by_cases h7 : p < 1
  · go_enter Try.func7, Try.ntmps7
    go_wp2
    go_ret2
    exact ⟨rfl, rfl⟩
  by_cases h8 : 16 < p
  · go_enter Try.func7, Try.ntmps7
    go_wp2
    go_ret2
    exact ⟨rfl, rfl⟩
  exact absurd (by constructor <;> omega) h

theorem clamp_r (a : Int) (w : World) : Calls Try.prog 15 #[.int .i64 a] w fun e w' => e = .returned (.int .i64 (cl a)) ∧ w' = w := by
  unfold cl
  split
  · go_enter Try.func15, Try.ntmps15
    go_wp2
    go_ret
    exact ⟨rfl, rfl⟩
  · split
    · go_enter Try.func15, Try.ntmps15
      go_wp2
      go_ret
      exact ⟨rfl, rfl⟩
    · go_enter Try.func15, Try.ntmps15
      go_wp2
      go_ret
      exact ⟨rfl, rfl⟩

theorem add_r (a b : Int) (w : World) : Calls Try.prog 16 #[.int .i64 a, .int .i64 b] w fun e w' => e = .returned (.int .i64 (ad a b)) ∧ w' = w := by
  have ha := cl_bounds a
  have hb := cl_bounds b
  have hw : wrap64 (cl a + cl b) = cl a + cl b := by unfold wrap64; omega
  have hw2 : wrap64 (1125899906842624 - cl b) = 1125899906842624 - cl b := by unfold wrap64; omega
  have HC := Lib.hid (clamp_r a)
  have HD := Lib.hid (clamp_r b)
  by_cases hgt : 1125899906842624 - cl b < cl a
  · have HA : Hid (ad a b = 1125899906842624) := Lib.hid (by unfold ad; rw [cl_big]; omega)
    generalize cl a = x at *
    generalize cl b = y at *
    clear ha hb
    go_enter Try.func16, Try.ntmps16
    go_wp2_with (first | (go_at_call 15; with_reducible refine (HC.out _).mono ?_; rintro e w' ⟨rfl, rfl⟩) | (go_at_call 15; with_reducible refine (HD.out _).mono ?_; rintro e w' ⟨rfl, rfl⟩))
    go_ret
    exact ⟨ret_int HA.out.symm, rfl⟩
  · have HA : Hid (ad a b = cl a + cl b) := Lib.hid (by unfold ad; rw [cl_same] <;> omega)
    generalize cl a = x at *
    generalize cl b = y at *
    clear ha hb
    go_enter Try.func16, Try.ntmps16
    go_wp2_with (first | (go_at_call 15; with_reducible refine (HC.out _).mono ?_; rintro e w' ⟨rfl, rfl⟩) | (go_at_call 15; with_reducible refine (HD.out _).mono ?_; rintro e w' ⟨rfl, rfl⟩))
    go_ret
    exact ⟨ret_int (hw.trans HA.out.symm), rfl⟩

/-- Deeds: at each index a kind, a time, and a result. -/
def Deeds (w : World) (A : Option Addr) (len : Nat) : Prop :=
  ∀ i : Int, 0 ≤ i → i < len → ∃ a K N b, A = some a ∧ w.cell? (a.add (i.toNat * 3)) = some (.int .i64 K) ∧ w.cell? ⟨(a.add (i.toNat * 3)).block, (a.add (i.toNat * 3)).off + 1, none⟩ = some (.int .i64 N) ∧ w.cell? ⟨(a.add (i.toNat * 3)).block, (a.add (i.toNat * 3)).off + 2, none⟩ = some (.bool b)

theorem cells31 : Try.prog.cellsOf 31 = 3 := by kernel_rfl

theorem deeds_of {w : World} {A : Option Addr} {len : Nat} (h : ∀ i, i < len → ∃ a, A = some a ∧ ∀ o k, (o, k) ∈ [(0, Args.Bs.int .i64), (1, Args.Bs.int .i64), (2, Args.Bs.bool)] → ∃ v, w.cell? (a.add (i * Try.prog.cellsOf 31 + o)) = some v ∧ k.fit v) : Deeds w A len := by
  intro i h0 h1
  obtain ⟨a, hA, hc⟩ := h i.toNat (by omega)
  rw [cells31] at hc
  obtain ⟨v0, hv0, x0, rfl, _⟩ := hc 0 (.int .i64) (by simp)
  obtain ⟨v1, hv1, x1, rfl, _⟩ := hc 1 (.int .i64) (by simp)
  obtain ⟨v2, hv2, x2, rfl⟩ := hc 2 .bool (by simp)
  exact ⟨a, x0, x1, x2, hA, hv0, by rw [← add_field a (i.toNat * 3) 1 (by omega)]; exact hv1, by rw [← add_field a (i.toNat * 3) 2 (by omega)]; exact hv2⟩

/-- What the law's own count has to do with the breaker's state. -/
structure RI (σ : St) (un th i : Int) : Prop where
  t0 : 0 ≤ th
  t1 : th ≤ i
  open_ : σ.st = 1 → un = σ.un ∧ th = 0
  half : σ.st = 2 → th ≤ σ.out

theorem Ow.drew {w : World} {B g : Nat} {s f r p : Int} {σ : St} (h : Ow w B g s f r p σ) : Ow w.drew B g s f r p σ := h

/-- A result: from which state to which. -/
theorem done_cases {s f r p : Int} {σ : St} (hc : Cfg s f r p) (h : Inv s p σ) (t : Int) (b : Bool) {un th i : Int} (hr : RI σ un th i) :
    (doneM s f r p σ t b).now = mx σ.now (cl t) ∧
    ((doneM s f r p σ t b).st = 1 ∧ σ.st ≠ 1 ∧ (doneM s f r p σ t b).un = ad (mx σ.now (cl t)) r ∨
     (doneM s f r p σ t b).st ≠ 1 ∧ (σ.st = 2 ∨ (doneM s f r p σ t b).st ≠ 2) ∧ RI (doneM s f r p σ t b) un 0 (i + 1) ∨
     σ.st = 1 ∧ (doneM s f r p σ t b).st = 1 ∧ RI (doneM s f r p σ t b) un 0 (i + 1)) := by
  have h3 := h.st
  have ho := h.out0
  have t0 := hr.t0; have t1 := hr.t1
  unfold doneM openM
  refine ⟨by repeat' split
             all_goals rfl, ?_⟩
  by_cases h0 : σ.st = 0
  · rw [if_pos h0]
    split
    · exact .inr (.inl ⟨by simp, by simp, ⟨by omega, by omega, by simp, by simp⟩⟩)
    · exact .inl ⟨rfl, by omega, rfl⟩
  · rw [if_neg h0]
    by_cases h1 : σ.st = 1
    · rw [if_pos h1]
      exact .inr (.inr ⟨h1, rfl, by omega, by omega, fun _ => ⟨(hr.open_ h1).1, rfl⟩, by simp⟩)
    · rw [if_neg h1]
      split
      · split
        · exact .inr (.inl ⟨by simp, by simp, ⟨by omega, by omega, by simp, by simp⟩⟩)
        · exact .inr (.inl ⟨by simp, .inl (by omega), ⟨by omega, by omega, by simp, fun _ => ho⟩⟩)
      · exact .inl ⟨rfl, h1, rfl⟩

/-- A question: from which state to which. -/
theorem allow_cases {s f r p : Int} {σ : St} (hc : Cfg s f r p) (h : Inv s p σ) (t : Int) {un th i : Int} (hr : RI σ un th i) :
    (allowM p σ t).2.now = mx σ.now (cl t) ∧
    ((allowM p σ t).1 = false ∧ (allowM p σ t).2.st = σ.st ∧ RI (allowM p σ t).2 un th (i + 1) ∨
     (allowM p σ t).1 = true ∧ (allowM p σ t).2.st = σ.st ∧ σ.st ≠ 1 ∧ (σ.st = 2 → th + 1 ≤ p) ∧ RI (allowM p σ t).2 un (th + 1) (i + 1) ∨
     (allowM p σ t).1 = true ∧ (allowM p σ t).2.st = 2 ∧ σ.st = 1 ∧ ¬ mx σ.now (cl t) < un ∧ th + 1 ≤ p ∧ RI (allowM p σ t).2 un 1 (i + 1)) := by
  have h3 := h.st
  have ho := h.out1
  have t0 := hr.t0; have t1 := hr.t1
  have hp := hc.p1
  unfold allowM
  refine ⟨by repeat' split
             all_goals rfl, ?_⟩
  by_cases h0 : σ.st = 0
  · rw [if_pos h0]
    exact .inr (.inl ⟨rfl, h0.symm, by omega, by omega, by omega, by omega, by simp, by simp⟩)
  · rw [if_neg h0]
    by_cases h1 : σ.st = 1
    · rw [if_pos h1]
      obtain ⟨hu, ht⟩ := hr.open_ h1
      split
      · exact .inl ⟨rfl, h1.symm, by omega, by omega, fun _ => ⟨hu, ht⟩, by simp⟩
      · exact .inr (.inr ⟨rfl, rfl, h1, by omega, by omega, by omega, by omega, by simp, fun _ => by simp⟩)
    · rw [if_neg h1]
      have h2 : σ.st = 2 := by omega
      have := hr.half h2
      split
      · exact .inl ⟨rfl, h2.symm, by omega, by omega, by simp, fun _ => this⟩
      · exact .inr (.inl ⟨rfl, h2.symm, h1, fun _ => by omega, by omega, by omega, by simp, fun _ => by simp; omega⟩)

theorem state_is {w : World} {B g : Nat} {s f r p : Int} {σ : St} (h : Ow w B g s f r p σ) (hc : Cfg s f r p) {x : Int} (hx : σ.st = x) :
    Calls Try.prog 14 #[.pointer (some ⟨g, 0, none⟩)] w fun e w' => e = .returned (.int .i64 x) ∧ w = w' := hx ▸ state_o h hc

end Go.Proofs.Ytocbnfpnbgpfjaa.Brk

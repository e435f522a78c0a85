/- What a deed does in both bags. -/
import Derived.Test.YthgkcjcmliaanaaBgY
set_option linter.unusedVariables false
set_option linter.unusedSimpArgs false
namespace Go.Proofs.Ythgkcjcmliaanaa.Bg
open Go.RowKit Go.Proofs.Ythgkcjcmliaanaa.Base Go.Proofs.Ythgkcjcmliaanaa.Rws Go.Proofs.YthgkcjcmliaanaaW.PrintWords Go.Proofs.YthgkcjcmliaanaaW.PrintMore
attribute [local go_sem] max2_mx min2_mn max_two min_two max_three min_three max_four min_four

theorem onlyB_mb {w w1 w2 : World} {B : Nat} (h : Only (fun k => B ≤ k) w w1) (k : Only (Mb w1 B) w1 w2) : Only (fun k => B ≤ k) w w2 := h.trans (k.mono (fun _ h => h.1))
theorem onlyB_mr {w w1 w2 : World} {B : Nat} (h : Only (fun k => B ≤ k) w w1) (k : Only (Mr w1 B) w1 w2) : Only (fun k => B ≤ k) w w2 := h.trans (k.mono (fun _ h => h.1))
theorem onlyB_no {w w1 w2 : World} {B : Nat} (h : Only (fun k => B ≤ k) w w1) (k : Only (fun _ => False) w1 w2) : Only (fun k => B ≤ k) w w2 := h.trans (k.mono (fun _ h => h.elim))

section
variable {w : World} {B g r : Nat} {σ : Bs}

set_option maxHeartbeats 4000000 in
set_option maxRecDepth 100000 in
theorem does_send (hb : Bo w B g σ) (hr : Ro w B r σ) (hO : Ok σ) (K k a b : Int) (x : Fl) (hK : K = 0 ∨ K = 1 ∨ K = 2) :
    Calls Try.prog 14 #[.pointer (some ⟨g, 0, none⟩), .pointer (some ⟨r, 0, none⟩), .agg #[.int .i64 K, .int .i64 k, .int .i64 a, .int .i64 b, .int .i64 x.f, .int .i64 x.t, .string x.s, .bool x.h]] w fun e w' => e = .returned (.bool true) ∧ Bo w' B g (sendM σ x).2 ∧ Ro w' B r (sendM σ x).2 ∧ Only (fun k => B ≤ k) w w' := by
  have HK := Lib.hid (heap_alloc_new w (.cells #[.int .i64 K, .int .i64 k, .int .i64 a, .int .i64 b, .int .i64 x.f, .int .i64 x.t, .string x.s, .bool x.h] 32))
  have HO : Hid (Only (fun k => B ≤ k) w (w.alloc (.cells #[.int .i64 K, .int .i64 k, .int .i64 a, .int .i64 b, .int .i64 x.f, .int .i64 x.t, .string x.s, .bool x.h] 32))) := Lib.hid ((Only.refl _ w).alloc _)
  have HB := Lib.hid (hb.only0 ((Only.refl _ w).alloc (.cells #[.int .i64 K, .int .i64 k, .int .i64 a, .int .i64 b, .int .i64 x.f, .int .i64 x.t, .string x.s, .bool x.h] 32)))
  have HR := Lib.hid (hr.only0 ((Only.refl _ w).alloc (.cells #[.int .i64 K, .int .i64 k, .int .i64 a, .int .i64 b, .int .i64 x.f, .int .i64 x.t, .string x.s, .bool x.h] 32)))
  have HS : Hid (∀ w0, Bo w0 B g σ → Calls Try.prog 8 #[.pointer (some ⟨g, 0, none⟩), .agg #[.int .i64 x.f, .int .i64 x.t, .string x.s, .bool x.h]] w0 fun e w' => e = .returned (.int .i64 (sendM σ x).1) ∧ Bo w' B g (sendM σ x).2 ∧ Only (Mb w0 B) w0 w') := Lib.hid (fun w0 h0 => send_q h0 hO x)
  have HRS : Hid (∀ w0, Ro w0 B r σ → Calls Try.prog 18 #[.pointer (some ⟨r, 0, none⟩), .agg #[.int .i64 x.f, .int .i64 x.t, .string x.s, .bool x.h]] w0 fun e w' => e = .returned (.int .i64 (sendM σ x).1) ∧ Ro w' B r (sendM σ x).2 ∧ Only (Mr w0 B) w0 w') := Lib.hid (fun w0 h0 => rsend_q h0 hO x)
  generalize (sendM σ x).2 = σ2 at *
  generalize (sendM σ x).1 = e1 at *
  clear hb hr hO
  rcases hK with rfl | rfl | rfl
  all_goals
    go_enter Try.func14, Try.ntmps14
    go_wp2
    generalize w.alloc (.cells #[_, .int .i64 k, .int .i64 a, .int .i64 b, .int .i64 x.f, .int .i64 x.t, .string x.s, .bool x.h] 32) = w1 at *
    have hc4 : w1.cell? ⟨w.heap.size, 4, none⟩ = some (.int .i64 x.f) := cell_at HK.out 4 rfl
    have hc5 : w1.cell? ⟨w.heap.size, 5, none⟩ = some (.int .i64 x.t) := cell_at HK.out 5 rfl
    have hc6 : w1.cell? ⟨w.heap.size, 6, none⟩ = some (.string x.s) := cell_at HK.out 6 rfl
    have hc7 : w1.cell? ⟨w.heap.size, 7, none⟩ = some (.bool x.h) := cell_at HK.out 7 rfl
    go_region_held3 (fun w' => w'.cell? ⟨w.heap.size, 4, none⟩ = some (.int .i64 x.f) ∧ w'.cell? ⟨w.heap.size, 5, none⟩ = some (.int .i64 x.t) ∧ w'.cell? ⟨w.heap.size, 6, none⟩ = some (.string x.s) ∧ w'.cell? ⟨w.heap.size, 7, none⟩ = some (.bool x.h)) (first | exact ⟨hc4, hc5, hc6, hc7⟩ | exact ⟨hd4, hd5, hd6, hd7⟩ | exact ⟨he4, he5, he6, he7⟩) (first | (go_at_call 8; refine (HS.out _ (by exact HB.out)).mono ?_; rintro e w2 ⟨rfl, hb2, ho2⟩; have HB2 := Lib.hid hb2; have HR2 := Lib.hid (Ro.mb (w := w1.drew) (by exact HR.out) ho2); have HO2 := Lib.hid (onlyB_mb (HO.out.drew) ho2); have hk2 := ho2.blk (w := w1.drew) (by exact HK.out) (not_mb (by exact HK.out) (by decide) (by decide)); have HK2 := Lib.hid hk2; have hd4 : w2.cell? ⟨w.heap.size, 4, none⟩ = some (.int .i64 x.f) := cell_at hk2 4 rfl; have hd5 : w2.cell? ⟨w.heap.size, 5, none⟩ = some (.int .i64 x.t) := cell_at hk2 5 rfl; have hd6 : w2.cell? ⟨w.heap.size, 6, none⟩ = some (.string x.s) := cell_at hk2 6 rfl; have hd7 : w2.cell? ⟨w.heap.size, 7, none⟩ = some (.bool x.h) := cell_at hk2 7 rfl; clear hb2 ho2 hk2) | (go_at_call 18; refine (HRS.out _ (by exact HR2.out)).mono ?_; rintro e w3 ⟨rfl, hb3, ho3⟩; have HR3 := Lib.hid hb3; have HB3 := Lib.hid (Bo.mr HB2.out ho3); have HO3 := Lib.hid (onlyB_mr HO2.out ho3); have hk2 := ho3.blk HK2.out (not_mr HK2.out (by decide) (by decide)); have he4 : w3.cell? ⟨w.heap.size, 4, none⟩ = some (.int .i64 x.f) := cell_at hk2 4 rfl; have he5 : w3.cell? ⟨w.heap.size, 5, none⟩ = some (.int .i64 x.t) := cell_at hk2 5 rfl; have he6 : w3.cell? ⟨w.heap.size, 6, none⟩ = some (.string x.s) := cell_at hk2 6 rfl; have he7 : w3.cell? ⟨w.heap.size, 7, none⟩ = some (.bool x.h) := cell_at hk2 7 rfl; clear hb3 ho3 hk2))
    go_wp2
    go_ret
    exact ⟨rfl, HB3.out, HR3.out, HO3.out⟩

set_option maxHeartbeats 4000000 in
set_option maxRecDepth 100000 in
theorem does_twice (hb : Bo w B g σ) (hr : Ro w B r σ) (hO : Ok σ) (K k a b : Int) (x : Fl) (hK : K = 4) :
    Calls Try.prog 14 #[.pointer (some ⟨g, 0, none⟩), .pointer (some ⟨r, 0, none⟩), .agg #[.int .i64 K, .int .i64 k, .int .i64 a, .int .i64 b, .int .i64 x.f, .int .i64 x.t, .string x.s, .bool x.h]] w fun e w' => e = .returned (.bool true) ∧ Bo w' B g (twiceM σ k).2 ∧ Ro w' B r (twiceM σ k).2 ∧ Only (fun k => B ≤ k) w w' := by
  have HK := Lib.hid (heap_alloc_new w (.cells #[.int .i64 K, .int .i64 k, .int .i64 a, .int .i64 b, .int .i64 x.f, .int .i64 x.t, .string x.s, .bool x.h] 32))
  have HO : Hid (Only (fun k => B ≤ k) w (w.alloc (.cells #[.int .i64 K, .int .i64 k, .int .i64 a, .int .i64 b, .int .i64 x.f, .int .i64 x.t, .string x.s, .bool x.h] 32))) := Lib.hid ((Only.refl _ w).alloc _)
  have HB := Lib.hid (hb.only0 ((Only.refl _ w).alloc (.cells #[.int .i64 K, .int .i64 k, .int .i64 a, .int .i64 b, .int .i64 x.f, .int .i64 x.t, .string x.s, .bool x.h] 32)))
  have HR := Lib.hid (hr.only0 ((Only.refl _ w).alloc (.cells #[.int .i64 K, .int .i64 k, .int .i64 a, .int .i64 b, .int .i64 x.f, .int .i64 x.t, .string x.s, .bool x.h] 32)))
  have HS : Hid (∀ w0, Bo w0 B g σ → Calls Try.prog 9 #[.pointer (some ⟨g, 0, none⟩), .int .i64 k] w0 fun e w' => e = .returned (.int .i64 (twiceM σ k).1) ∧ Bo w' B g (twiceM σ k).2 ∧ Only (Mb w0 B) w0 w') := Lib.hid (fun w0 h0 => twice_q h0 hO k)
  have HRS : Hid (∀ w0, Ro w0 B r σ → Calls Try.prog 20 #[.pointer (some ⟨r, 0, none⟩), .int .i64 k] w0 fun e w' => e = .returned (.int .i64 (twiceM σ k).1) ∧ Ro w' B r (twiceM σ k).2 ∧ Only (Mr w0 B) w0 w') := Lib.hid (fun w0 h0 => rtwice_q h0 hO k)
  generalize (twiceM σ k).2 = σ2 at *
  generalize (twiceM σ k).1 = e1 at *
  clear hb hr hO
  subst hK
  all_goals
    go_enter Try.func14, Try.ntmps14
    go_wp2
    generalize w.alloc (.cells #[.int .i64 4, .int .i64 k, .int .i64 a, .int .i64 b, .int .i64 x.f, .int .i64 x.t, .string x.s, .bool x.h] 32) = w1 at *
    have hc1 : w1.cell? ⟨w.heap.size, 1, none⟩ = some (.int .i64 k) := cell_at HK.out 1 rfl
    go_region_held3 (fun w' => w'.cell? ⟨w.heap.size, 1, none⟩ = some (.int .i64 k)) (first | exact hc1 | exact hd1 | exact he1) (first | (go_at_call 9; refine (HS.out _ (by exact HB.out)).mono ?_; rintro e w2 ⟨rfl, hb2, ho2⟩; have HB2 := Lib.hid hb2; have HR2 := Lib.hid (Ro.mb (w := w1.drew) (by exact HR.out) ho2); have HO2 := Lib.hid (onlyB_mb (HO.out.drew) ho2); have hk2 := ho2.blk (w := w1.drew) (by exact HK.out) (not_mb (by exact HK.out) (by decide) (by decide)); have HK2 := Lib.hid hk2; have hd1 : w2.cell? ⟨w.heap.size, 1, none⟩ = some (.int .i64 k) := cell_at hk2 1 rfl; clear hb2 ho2 hk2) | (go_at_call 20; refine (HRS.out _ (by exact HR2.out)).mono ?_; rintro e w3 ⟨rfl, hb3, ho3⟩; have HR3 := Lib.hid hb3; have HB3 := Lib.hid (Bo.mr HB2.out ho3); have HO3 := Lib.hid (onlyB_mr HO2.out ho3); have hk2 := ho3.blk HK2.out (not_mr HK2.out (by decide) (by decide)); have he1 : w3.cell? ⟨w.heap.size, 1, none⟩ = some (.int .i64 k) := cell_at hk2 1 rfl; clear hb3 ho3 hk2))
    go_wp2
    go_ret
    exact ⟨rfl, HB3.out, HR3.out, HO3.out⟩

set_option maxHeartbeats 4000000 in
set_option maxRecDepth 100000 in
theorem does_hurt (hb : Bo w B g σ) (hr : Ro w B r σ) (hO : Ok σ) (K k a b : Int) (x : Fl) (hK : K = 5) :
    Calls Try.prog 14 #[.pointer (some ⟨g, 0, none⟩), .pointer (some ⟨r, 0, none⟩), .agg #[.int .i64 K, .int .i64 k, .int .i64 a, .int .i64 b, .int .i64 x.f, .int .i64 x.t, .string x.s, .bool x.h]] w fun e w' => e = .returned (.bool true) ∧ Bo w' B g (hurtM σ k a b).2 ∧ Ro w' B r (hurtM σ k a b).2 ∧ Only (fun k => B ≤ k) w w' := by
  have HK := Lib.hid (heap_alloc_new w (.cells #[.int .i64 K, .int .i64 k, .int .i64 a, .int .i64 b, .int .i64 x.f, .int .i64 x.t, .string x.s, .bool x.h] 32))
  have HO : Hid (Only (fun k => B ≤ k) w (w.alloc (.cells #[.int .i64 K, .int .i64 k, .int .i64 a, .int .i64 b, .int .i64 x.f, .int .i64 x.t, .string x.s, .bool x.h] 32))) := Lib.hid ((Only.refl _ w).alloc _)
  have HB := Lib.hid (hb.only0 ((Only.refl _ w).alloc (.cells #[.int .i64 K, .int .i64 k, .int .i64 a, .int .i64 b, .int .i64 x.f, .int .i64 x.t, .string x.s, .bool x.h] 32)))
  have HR := Lib.hid (hr.only0 ((Only.refl _ w).alloc (.cells #[.int .i64 K, .int .i64 k, .int .i64 a, .int .i64 b, .int .i64 x.f, .int .i64 x.t, .string x.s, .bool x.h] 32)))
  have HS : Hid (∀ w0, Bo w0 B g σ → Calls Try.prog 11 #[.pointer (some ⟨g, 0, none⟩), .int .i64 k, .int .i64 a, .int .i64 b] w0 fun e w' => e = .returned (.int .i64 (hurtM σ k a b).1) ∧ Bo w' B g (hurtM σ k a b).2 ∧ Only (Mb w0 B) w0 w') := Lib.hid (fun w0 h0 => hurt_q h0 hO k a b)
  have HRS : Hid (∀ w0, Ro w0 B r σ → Calls Try.prog 21 #[.pointer (some ⟨r, 0, none⟩), .int .i64 k, .int .i64 a, .int .i64 b] w0 fun e w' => e = .returned (.int .i64 (hurtM σ k a b).1) ∧ Ro w' B r (hurtM σ k a b).2 ∧ Only (Mr w0 B) w0 w') := Lib.hid (fun w0 h0 => rhurt_q h0 hO k a b)
  generalize (hurtM σ k a b).2 = σ2 at *
  generalize (hurtM σ k a b).1 = e1 at *
  clear hb hr hO
  subst hK
  all_goals
    go_enter Try.func14, Try.ntmps14
    go_wp2
    generalize w.alloc (.cells #[.int .i64 5, .int .i64 k, .int .i64 a, .int .i64 b, .int .i64 x.f, .int .i64 x.t, .string x.s, .bool x.h] 32) = w1 at *
    have hc1 : w1.cell? ⟨w.heap.size, 1, none⟩ = some (.int .i64 k) := cell_at HK.out 1 rfl
    have hc2 : w1.cell? ⟨w.heap.size, 2, none⟩ = some (.int .i64 a) := cell_at HK.out 2 rfl
    have hc3 : w1.cell? ⟨w.heap.size, 3, none⟩ = some (.int .i64 b) := cell_at HK.out 3 rfl
    go_region_held3 (fun w' => w'.cell? ⟨w.heap.size, 1, none⟩ = some (.int .i64 k) ∧ w'.cell? ⟨w.heap.size, 2, none⟩ = some (.int .i64 a) ∧ w'.cell? ⟨w.heap.size, 3, none⟩ = some (.int .i64 b)) (first | exact ⟨hc1, hc2, hc3⟩ | exact ⟨hd1, hd2, hd3⟩ | exact ⟨he1, he2, he3⟩) (first | (go_at_call 11; refine (HS.out _ (by exact HB.out)).mono ?_; rintro e w2 ⟨rfl, hb2, ho2⟩; have HB2 := Lib.hid hb2; have HR2 := Lib.hid (Ro.mb (w := w1.drew) (by exact HR.out) ho2); have HO2 := Lib.hid (onlyB_mb (HO.out.drew) ho2); have hk2 := ho2.blk (w := w1.drew) (by exact HK.out) (not_mb (by exact HK.out) (by decide) (by decide)); have HK2 := Lib.hid hk2; have hd1 : w2.cell? ⟨w.heap.size, 1, none⟩ = some (.int .i64 k) := cell_at hk2 1 rfl; have hd2 : w2.cell? ⟨w.heap.size, 2, none⟩ = some (.int .i64 a) := cell_at hk2 2 rfl; have hd3 : w2.cell? ⟨w.heap.size, 3, none⟩ = some (.int .i64 b) := cell_at hk2 3 rfl; clear hb2 ho2 hk2) | (go_at_call 21; refine (HRS.out _ (by exact HR2.out)).mono ?_; rintro e w3 ⟨rfl, hb3, ho3⟩; have HR3 := Lib.hid hb3; have HB3 := Lib.hid (Bo.mr HB2.out ho3); have HO3 := Lib.hid (onlyB_mr HO2.out ho3); have hk2 := ho3.blk HK2.out (not_mr HK2.out (by decide) (by decide)); have he1 : w3.cell? ⟨w.heap.size, 1, none⟩ = some (.int .i64 k) := cell_at hk2 1 rfl; have he2 : w3.cell? ⟨w.heap.size, 2, none⟩ = some (.int .i64 a) := cell_at hk2 2 rfl; have he3 : w3.cell? ⟨w.heap.size, 3, none⟩ = some (.int .i64 b) := cell_at hk2 3 rfl; clear hb3 ho3 hk2))
    go_wp2
    go_ret
    exact ⟨rfl, HB3.out, HR3.out, HO3.out⟩

set_option maxHeartbeats 4000000 in
set_option maxRecDepth 100000 in
theorem does_take (hb : Bo w B g σ) (hr : Ro w B r σ) (hO : Ok σ) (K k a b : Int) (x : Fl) (hK : K = 3) :
    Calls Try.prog 14 #[.pointer (some ⟨g, 0, none⟩), .pointer (some ⟨r, 0, none⟩), .agg #[.int .i64 K, .int .i64 k, .int .i64 a, .int .i64 b, .int .i64 x.f, .int .i64 x.t, .string x.s, .bool x.h]] w fun e w' => e = .returned (.bool true) ∧ Bo w' B g (takeM σ k) ∧ Ro w' B r (takeM σ k) ∧ Only (fun k => B ≤ k) w w' := by
  have HK := Lib.hid (heap_alloc_new w (.cells #[.int .i64 K, .int .i64 k, .int .i64 a, .int .i64 b, .int .i64 x.f, .int .i64 x.t, .string x.s, .bool x.h] 32))
  have HO : Hid (Only (fun k => B ≤ k) w (w.alloc (.cells #[.int .i64 K, .int .i64 k, .int .i64 a, .int .i64 b, .int .i64 x.f, .int .i64 x.t, .string x.s, .bool x.h] 32))) := Lib.hid ((Only.refl _ w).alloc _)
  have HB := Lib.hid (hb.only0 ((Only.refl _ w).alloc (.cells #[.int .i64 K, .int .i64 k, .int .i64 a, .int .i64 b, .int .i64 x.f, .int .i64 x.t, .string x.s, .bool x.h] 32)))
  have HR := Lib.hid (hr.only0 ((Only.refl _ w).alloc (.cells #[.int .i64 K, .int .i64 k, .int .i64 a, .int .i64 b, .int .i64 x.f, .int .i64 x.t, .string x.s, .bool x.h] 32)))
  obtain ⟨y, e0, hy⟩ : ∃ y e0, lookF σ.L k = (y, e0) := ⟨_, _, rfl⟩
  have HS : Hid (∀ w0, Bo w0 B g σ → Calls Try.prog 10 #[.pointer (some ⟨g, 0, none⟩), .int .i64 k] w0 fun e w' => e = .returned (.tuple #[.agg #[.int .i64 y.f, .int .i64 y.t, .string y.s, .bool y.h], .int .i64 e0]) ∧ Bo w' B g (takeM σ k) ∧ Only (Mb w0 B) w0 w') := Lib.hid (fun w0 h0 => by have := take_q h0 hO k; rw [hy] at this; exact this)
  have HRS : Hid (∀ w0, Ro w0 B r σ → Calls Try.prog 19 #[.pointer (some ⟨r, 0, none⟩), .int .i64 k] w0 fun e w' => e = .returned (.tuple #[.agg #[.int .i64 y.f, .int .i64 y.t, .string y.s, .bool y.h], .int .i64 e0]) ∧ Ro w' B r (takeM σ k) ∧ Only (Mr w0 B) w0 w') := Lib.hid (fun w0 h0 => by have := rtake_q h0 hO k; rw [hy] at this; exact this)
  generalize takeM σ k = σ2 at *
  clear hy
  clear hb hr hO
  subst hK
  go_enter Try.func14, Try.ntmps14
  go_wp2_with fail
  generalize w.alloc (.cells #[.int .i64 3, .int .i64 k, .int .i64 a, .int .i64 b, .int .i64 x.f, .int .i64 x.t, .string x.s, .bool x.h] 32) = w1 at *
  refine (HS.out _ HB.out).mono ?_
  rintro e w2 ⟨rfl, hb2, ho2⟩
  have HB2 : Hid (Bo (w2.alloc (.cells #[.int .i64 y.f, .int .i64 y.t, .string y.s, .bool y.h] 29)) B g _) := Lib.hid (hb2.only0 ((Only.refl _ w2).alloc (.cells #[.int .i64 y.f, .int .i64 y.t, .string y.s, .bool y.h] 29)))
  have HR2 : Hid (Ro (w2.alloc (.cells #[.int .i64 y.f, .int .i64 y.t, .string y.s, .bool y.h] 29)) B r σ) := Lib.hid ((Ro.mb HR.out ho2).only0 ((Only.refl _ w2).alloc (.cells #[.int .i64 y.f, .int .i64 y.t, .string y.s, .bool y.h] 29)))
  have HO2 : Hid (Only (fun k => B ≤ k) w (w2.alloc (.cells #[.int .i64 y.f, .int .i64 y.t, .string y.s, .bool y.h] 29))) := Lib.hid ((onlyB_mb HO.out ho2).alloc _)
  have hk2 := ((Only.refl (fun _ => False) w2).alloc (.cells #[.int .i64 y.f, .int .i64 y.t, .string y.s, .bool y.h] 29)).blk (ho2.blk HK.out (not_mb HK.out (by decide) (by decide))) (fun h => h)
  have HK2 := Lib.hid hk2
  have HC2 := Lib.hid (heap_alloc_new w2 (.cells #[.int .i64 y.f, .int .i64 y.t, .string y.s, .bool y.h] 29))
  have hd1 : (w2.alloc (.cells #[.int .i64 y.f, .int .i64 y.t, .string y.s, .bool y.h] 29)).cell? ⟨w.heap.size, 1, none⟩ = some (.int .i64 k) := cell_at hk2 1 rfl
  clear hb2 ho2 hk2
  go_wp2_with fail
  generalize w2.alloc (.cells #[.int .i64 y.f, .int .i64 y.t, .string y.s, .bool y.h] 29) = w3 at *
  generalize w2.heap.size = p at *
  refine (HRS.out _ HR2.out).mono ?_
  rintro e w4 ⟨rfl, hb4, ho4⟩
  have HR4 : Hid (Ro (w4.alloc (.cells #[.int .i64 y.f, .int .i64 y.t, .string y.s, .bool y.h] 30)) B r _) := Lib.hid (hb4.only0 ((Only.refl _ w4).alloc (.cells #[.int .i64 y.f, .int .i64 y.t, .string y.s, .bool y.h] 30)))
  have HB4 : Hid (Bo (w4.alloc (.cells #[.int .i64 y.f, .int .i64 y.t, .string y.s, .bool y.h] 30)) B g _) := Lib.hid ((Bo.mr HB2.out ho4).only0 ((Only.refl _ w4).alloc (.cells #[.int .i64 y.f, .int .i64 y.t, .string y.s, .bool y.h] 30)))
  have HO4 : Hid (Only (fun k => B ≤ k) w (w4.alloc (.cells #[.int .i64 y.f, .int .i64 y.t, .string y.s, .bool y.h] 30))) := Lib.hid ((onlyB_mr HO2.out ho4).alloc _)
  have hk4 := ((Only.refl (fun _ => False) w4).alloc (.cells #[.int .i64 y.f, .int .i64 y.t, .string y.s, .bool y.h] 30)).blk (ho4.blk HC2.out (not_mr HC2.out (by decide) (by decide))) (fun h => h)
  have hk5 := heap_alloc_new w4 (.cells #[.int .i64 y.f, .int .i64 y.t, .string y.s, .bool y.h] 30)
  have hf0 : (w4.alloc (.cells #[.int .i64 y.f, .int .i64 y.t, .string y.s, .bool y.h] 30)).cell? ⟨p, 0, none⟩ = some (.int .i64 y.f) := cell_at hk4 0 rfl
  have hf1 : (w4.alloc (.cells #[.int .i64 y.f, .int .i64 y.t, .string y.s, .bool y.h] 30)).cell? ⟨p, 1, none⟩ = some (.int .i64 y.t) := cell_at hk4 1 rfl
  have hf2 : (w4.alloc (.cells #[.int .i64 y.f, .int .i64 y.t, .string y.s, .bool y.h] 30)).cell? ⟨p, 2, none⟩ = some (.string y.s) := cell_at hk4 2 rfl
  have hf3 : (w4.alloc (.cells #[.int .i64 y.f, .int .i64 y.t, .string y.s, .bool y.h] 30)).cell? ⟨p, 3, none⟩ = some (.bool y.h) := cell_at hk4 3 rfl
  have hg0 : (w4.alloc (.cells #[.int .i64 y.f, .int .i64 y.t, .string y.s, .bool y.h] 30)).cell? ⟨w4.heap.size, 0, none⟩ = some (.int .i64 y.f) := cell_at hk5 0 rfl
  have hg1 : (w4.alloc (.cells #[.int .i64 y.f, .int .i64 y.t, .string y.s, .bool y.h] 30)).cell? ⟨w4.heap.size, 1, none⟩ = some (.int .i64 y.t) := cell_at hk5 1 rfl
  have hg2 : (w4.alloc (.cells #[.int .i64 y.f, .int .i64 y.t, .string y.s, .bool y.h] 30)).cell? ⟨w4.heap.size, 2, none⟩ = some (.string y.s) := cell_at hk5 2 rfl
  have hg3 : (w4.alloc (.cells #[.int .i64 y.f, .int .i64 y.t, .string y.s, .bool y.h] 30)).cell? ⟨w4.heap.size, 3, none⟩ = some (.bool y.h) := cell_at hk5 3 rfl
  clear hb4 ho4 hk4 hk5 hd1
  go_wp2_with (go_at_call 16; refine (same_p y _).mono ?_; rintro e w6 ⟨rfl, ho6⟩; have HB6 := Lib.hid (HB4.out.only0 ho6); have HR6 := Lib.hid (HR4.out.only0 ho6); have HO6 := Lib.hid (onlyB_no HO4.out ho6); clear ho6)
  go_ret
  exact ⟨rfl, HB6.out, HR6.out, HO6.out⟩

set_option maxHeartbeats 4000000 in
set_option maxRecDepth 100000 in
theorem does_look (hb : Bo w B g σ) (hr : Ro w B r σ) (hO : Ok σ) (K k a b : Int) (x : Fl) (hK : K = 6) :
    Calls Try.prog 14 #[.pointer (some ⟨g, 0, none⟩), .pointer (some ⟨r, 0, none⟩), .agg #[.int .i64 K, .int .i64 k, .int .i64 a, .int .i64 b, .int .i64 x.f, .int .i64 x.t, .string x.s, .bool x.h]] w fun e w' => e = .returned (.bool true) ∧ Bo w' B g σ ∧ Ro w' B r σ ∧ Only (fun k => B ≤ k) w w' := by
  have HK := Lib.hid (heap_alloc_new w (.cells #[.int .i64 K, .int .i64 k, .int .i64 a, .int .i64 b, .int .i64 x.f, .int .i64 x.t, .string x.s, .bool x.h] 32))
  have HO : Hid (Only (fun k => B ≤ k) w (w.alloc (.cells #[.int .i64 K, .int .i64 k, .int .i64 a, .int .i64 b, .int .i64 x.f, .int .i64 x.t, .string x.s, .bool x.h] 32))) := Lib.hid ((Only.refl _ w).alloc _)
  have HB := Lib.hid (hb.only0 ((Only.refl _ w).alloc (.cells #[.int .i64 K, .int .i64 k, .int .i64 a, .int .i64 b, .int .i64 x.f, .int .i64 x.t, .string x.s, .bool x.h] 32)))
  have HR := Lib.hid (hr.only0 ((Only.refl _ w).alloc (.cells #[.int .i64 K, .int .i64 k, .int .i64 a, .int .i64 b, .int .i64 x.f, .int .i64 x.t, .string x.s, .bool x.h] 32)))
  obtain ⟨y, e0, hy⟩ : ∃ y e0, lookF σ.L k = (y, e0) := ⟨_, _, rfl⟩
  have HS : Hid (∀ w0, Bo w0 B g σ → Calls Try.prog 13 #[.pointer (some ⟨g, 0, none⟩), .int .i64 k] w0 fun e w' => e = .returned (.tuple #[.agg #[.int .i64 y.f, .int .i64 y.t, .string y.s, .bool y.h], .int .i64 e0]) ∧ Bo w' B g σ ∧ Only (Mb w0 B) w0 w') := Lib.hid (fun w0 h0 => (look_q h0 k hy).mono fun e w' ⟨he, ho⟩ => ⟨he, h0.only0 ho, ho.mono (fun _ h => h.elim)⟩)
  have HRS : Hid (∀ w0, Ro w0 B r σ → Calls Try.prog 22 #[.pointer (some ⟨r, 0, none⟩), .int .i64 k] w0 fun e w' => e = .returned (.tuple #[.agg #[.int .i64 y.f, .int .i64 y.t, .string y.s, .bool y.h], .int .i64 e0]) ∧ Ro w' B r σ ∧ Only (Mr w0 B) w0 w') := Lib.hid (fun w0 h0 => (rlook_q h0 k hy).mono fun e w' ⟨he, ho⟩ => ⟨he, h0.only0 ho, ho.mono (fun _ h => h.elim)⟩)
  clear hy
  clear hb hr hO
  subst hK
  go_enter Try.func14, Try.ntmps14
  go_wp2_with fail
  generalize w.alloc (.cells #[.int .i64 6, .int .i64 k, .int .i64 a, .int .i64 b, .int .i64 x.f, .int .i64 x.t, .string x.s, .bool x.h] 32) = w1 at *
  refine (HS.out _ HB.out).mono ?_
  rintro e w2 ⟨rfl, hb2, ho2⟩
  have HB2 : Hid (Bo (w2.alloc (.cells #[.int .i64 y.f, .int .i64 y.t, .string y.s, .bool y.h] 29)) B g _) := Lib.hid (hb2.only0 ((Only.refl _ w2).alloc (.cells #[.int .i64 y.f, .int .i64 y.t, .string y.s, .bool y.h] 29)))
  have HR2 : Hid (Ro (w2.alloc (.cells #[.int .i64 y.f, .int .i64 y.t, .string y.s, .bool y.h] 29)) B r σ) := Lib.hid ((Ro.mb HR.out ho2).only0 ((Only.refl _ w2).alloc (.cells #[.int .i64 y.f, .int .i64 y.t, .string y.s, .bool y.h] 29)))
  have HO2 : Hid (Only (fun k => B ≤ k) w (w2.alloc (.cells #[.int .i64 y.f, .int .i64 y.t, .string y.s, .bool y.h] 29))) := Lib.hid ((onlyB_mb HO.out ho2).alloc _)
  have hk2 := ((Only.refl (fun _ => False) w2).alloc (.cells #[.int .i64 y.f, .int .i64 y.t, .string y.s, .bool y.h] 29)).blk (ho2.blk HK.out (not_mb HK.out (by decide) (by decide))) (fun h => h)
  have HK2 := Lib.hid hk2
  have HC2 := Lib.hid (heap_alloc_new w2 (.cells #[.int .i64 y.f, .int .i64 y.t, .string y.s, .bool y.h] 29))
  have hd1 : (w2.alloc (.cells #[.int .i64 y.f, .int .i64 y.t, .string y.s, .bool y.h] 29)).cell? ⟨w.heap.size, 1, none⟩ = some (.int .i64 k) := cell_at hk2 1 rfl
  clear hb2 ho2 hk2
  go_wp2_with fail
  generalize w2.alloc (.cells #[.int .i64 y.f, .int .i64 y.t, .string y.s, .bool y.h] 29) = w3 at *
  generalize w2.heap.size = p at *
  refine (HRS.out _ HR2.out).mono ?_
  rintro e w4 ⟨rfl, hb4, ho4⟩
  have HR4 : Hid (Ro (w4.alloc (.cells #[.int .i64 y.f, .int .i64 y.t, .string y.s, .bool y.h] 30)) B r _) := Lib.hid (hb4.only0 ((Only.refl _ w4).alloc (.cells #[.int .i64 y.f, .int .i64 y.t, .string y.s, .bool y.h] 30)))
  have HB4 : Hid (Bo (w4.alloc (.cells #[.int .i64 y.f, .int .i64 y.t, .string y.s, .bool y.h] 30)) B g _) := Lib.hid ((Bo.mr HB2.out ho4).only0 ((Only.refl _ w4).alloc (.cells #[.int .i64 y.f, .int .i64 y.t, .string y.s, .bool y.h] 30)))
  have HO4 : Hid (Only (fun k => B ≤ k) w (w4.alloc (.cells #[.int .i64 y.f, .int .i64 y.t, .string y.s, .bool y.h] 30))) := Lib.hid ((onlyB_mr HO2.out ho4).alloc _)
  have hk4 := ((Only.refl (fun _ => False) w4).alloc (.cells #[.int .i64 y.f, .int .i64 y.t, .string y.s, .bool y.h] 30)).blk (ho4.blk HC2.out (not_mr HC2.out (by decide) (by decide))) (fun h => h)
  have hk5 := heap_alloc_new w4 (.cells #[.int .i64 y.f, .int .i64 y.t, .string y.s, .bool y.h] 30)
  have hf0 : (w4.alloc (.cells #[.int .i64 y.f, .int .i64 y.t, .string y.s, .bool y.h] 30)).cell? ⟨p, 0, none⟩ = some (.int .i64 y.f) := cell_at hk4 0 rfl
  have hf1 : (w4.alloc (.cells #[.int .i64 y.f, .int .i64 y.t, .string y.s, .bool y.h] 30)).cell? ⟨p, 1, none⟩ = some (.int .i64 y.t) := cell_at hk4 1 rfl
  have hf2 : (w4.alloc (.cells #[.int .i64 y.f, .int .i64 y.t, .string y.s, .bool y.h] 30)).cell? ⟨p, 2, none⟩ = some (.string y.s) := cell_at hk4 2 rfl
  have hf3 : (w4.alloc (.cells #[.int .i64 y.f, .int .i64 y.t, .string y.s, .bool y.h] 30)).cell? ⟨p, 3, none⟩ = some (.bool y.h) := cell_at hk4 3 rfl
  have hg0 : (w4.alloc (.cells #[.int .i64 y.f, .int .i64 y.t, .string y.s, .bool y.h] 30)).cell? ⟨w4.heap.size, 0, none⟩ = some (.int .i64 y.f) := cell_at hk5 0 rfl
  have hg1 : (w4.alloc (.cells #[.int .i64 y.f, .int .i64 y.t, .string y.s, .bool y.h] 30)).cell? ⟨w4.heap.size, 1, none⟩ = some (.int .i64 y.t) := cell_at hk5 1 rfl
  have hg2 : (w4.alloc (.cells #[.int .i64 y.f, .int .i64 y.t, .string y.s, .bool y.h] 30)).cell? ⟨w4.heap.size, 2, none⟩ = some (.string y.s) := cell_at hk5 2 rfl
  have hg3 : (w4.alloc (.cells #[.int .i64 y.f, .int .i64 y.t, .string y.s, .bool y.h] 30)).cell? ⟨w4.heap.size, 3, none⟩ = some (.bool y.h) := cell_at hk5 3 rfl
  clear hb4 ho4 hk4 hk5 hd1
  go_wp2_with (go_at_call 16; refine (same_p y _).mono ?_; rintro e w6 ⟨rfl, ho6⟩; have HB6 := Lib.hid (HB4.out.only0 ho6); have HR6 := Lib.hid (HR4.out.only0 ho6); have HO6 := Lib.hid (onlyB_no HO4.out ho6); clear ho6)
  go_ret
  exact ⟨rfl, HB6.out, HR6.out, HO6.out⟩

set_option maxHeartbeats 4000000 in
set_option maxRecDepth 100000 in
theorem does_none (hb : Bo w B g σ) (hr : Ro w B r σ) (hO : Ok σ) (K k a b : Int) (x : Fl) (hK : ¬ (K = 0 ∨ K = 1 ∨ K = 2 ∨ K = 3 ∨ K = 4 ∨ K = 5 ∨ K = 6)) :
    Calls Try.prog 14 #[.pointer (some ⟨g, 0, none⟩), .pointer (some ⟨r, 0, none⟩), .agg #[.int .i64 K, .int .i64 k, .int .i64 a, .int .i64 b, .int .i64 x.f, .int .i64 x.t, .string x.s, .bool x.h]] w fun e w' => e = .returned (.bool true) ∧ Bo w' B g σ ∧ Ro w' B r σ ∧ Only (fun k => B ≤ k) w w' := by
  have HK := Lib.hid (heap_alloc_new w (.cells #[.int .i64 K, .int .i64 k, .int .i64 a, .int .i64 b, .int .i64 x.f, .int .i64 x.t, .string x.s, .bool x.h] 32))
  have HO : Hid (Only (fun k => B ≤ k) w (w.alloc (.cells #[.int .i64 K, .int .i64 k, .int .i64 a, .int .i64 b, .int .i64 x.f, .int .i64 x.t, .string x.s, .bool x.h] 32))) := Lib.hid ((Only.refl _ w).alloc _)
  have HB := Lib.hid (hb.only0 ((Only.refl _ w).alloc (.cells #[.int .i64 K, .int .i64 k, .int .i64 a, .int .i64 b, .int .i64 x.f, .int .i64 x.t, .string x.s, .bool x.h] 32)))
  have HR := Lib.hid (hr.only0 ((Only.refl _ w).alloc (.cells #[.int .i64 K, .int .i64 k, .int .i64 a, .int .i64 b, .int .i64 x.f, .int .i64 x.t, .string x.s, .bool x.h] 32)))
  clear hb hr hO
  have h0 : ¬ K = 0 := fun e => hK (by omega)
  have h1 : ¬ K = 1 := fun e => hK (by omega)
  have h2 : ¬ K = 2 := fun e => hK (by omega)
  have h3 : ¬ K = 3 := fun e => hK (by omega)
  have h4 : ¬ K = 4 := fun e => hK (by omega)
  have h5 : ¬ K = 5 := fun e => hK (by omega)
  have h6 : ¬ K = 6 := fun e => hK (by omega)
  clear hK
  go_enter Try.func14, Try.ntmps14
  go_wp2
  go_ret
  exact ⟨rfl, HB.out, HR.out, HO.out⟩

def doM (σ : Bs) (K k a b : Int) (x : Fl) : Bs :=
  if K = 0 ∨ K = 1 ∨ K = 2 then (sendM σ x).2 else if K = 3 then takeM σ k else if K = 4 then (twiceM σ k).2 else if K = 5 then (hurtM σ k a b).2 else σ

theorem does_p (hb : Bo w B g σ) (hr : Ro w B r σ) (hO : Ok σ) (K k a b : Int) (x : Fl) :
    Calls Try.prog 14 #[.pointer (some ⟨g, 0, none⟩), .pointer (some ⟨r, 0, none⟩), .agg #[.int .i64 K, .int .i64 k, .int .i64 a, .int .i64 b, .int .i64 x.f, .int .i64 x.t, .string x.s, .bool x.h]] w fun e w' => e = .returned (.bool true) ∧ Bo w' B g (doM σ K k a b x) ∧ Ro w' B r (doM σ K k a b x) ∧ Only (fun k => B ≤ k) w w' := by
  unfold doM
  by_cases h : K = 0 ∨ K = 1 ∨ K = 2
  · rw [if_pos h]; exact does_send hb hr hO K k a b x h
  rw [if_neg h]
  by_cases h3 : K = 3
  · rw [if_pos h3]; exact does_take hb hr hO K k a b x h3
  rw [if_neg h3]
  by_cases h4 : K = 4
  · rw [if_pos h4]; exact does_twice hb hr hO K k a b x h4
  rw [if_neg h4]
  by_cases h5 : K = 5
  · rw [if_pos h5]; exact does_hurt hb hr hO K k a b x h5
  rw [if_neg h5]
  by_cases h6 : K = 6
  · exact does_look hb hr hO K k a b x h6
  · exact does_none hb hr hO K k a b x (by omega)
end

end Go.Proofs.Ythgkcjcmliaanaa.Bg

/- Alarm: the document's Past; a name of the document's as one of the program's. -/
import Derived.Test.YtmkcckkjkfmheaaAlR
import Derived.Test.YtmkcckkjkfmheaaAlU
set_option linter.unusedVariables false
set_option linter.unusedSimpArgs false
set_option maxRecDepth 100000
namespace Go.Proofs.Ytmkcckkjkfmheaa.Al
open Go.RowKit Go.Maps Go.Proofs.Ytmkcckkjkfmheaa.Base Go.Proofs.Ytmkcckkjkfmheaa.Rws Go.Proofs.Ytmkcckkjkfmheaa.Wh Go.Proofs.YtmkcckkjkfmheaaW.PrintWords Go.Proofs.YtmkcckkjkfmheaaW.PrintMore
attribute [local go_sem] max2_mx min2_mn max_two min_two max_three min_three max_four min_four

theorem mine_p (k : K5) (w : World) : Calls Try.prog 11 #[k.v] w fun e w' => e = .returned k.v ∧ Only (fun _ => False) w w' :=
  (PR.hourglasslaw11_mine.calls k.a k.b k.c k.d k.e k.a k.b k.c k.d k.e w rfl).mono fun e w' h => ⟨h.1, Only.of_below h.2⟩

theorem addR_p (a b : Int) (ha : 0 ≤ a ∧ a ≤ 1125899906842624) (hb : 0 ≤ b ∧ b ≤ 1125899906842624) (w : World) : Calls Try.prog 51 #[.int .i64 a, .int .i64 b] w fun e w' => e = .returned (.int .i64 (mn (a + b) 1125899906842624)) ∧ w = w' := by
  have HA : Hid (∀ w, Calls Try.prog 14 #[.int .i64 a] w fun e w' => e = .returned (.int .i64 a) ∧ w = w') := Lib.hid (fun w => by
    have := clampR_p a w
    rwa [cl_same a ha.1 ha.2] at this)
  have HB : Hid (∀ w, Calls Try.prog 14 #[.int .i64 b] w fun e w' => e = .returned (.int .i64 b) ∧ w = w') := Lib.hid (fun w => by
    have := clampR_p b w
    rwa [cl_same b hb.1 hb.2] at this)
  have hw1 : wrap64 (1125899906842624 - b) = 1125899906842624 - b := IntWalk.wrap64_in _ (by omega)
  have hw2 : wrap64 (a + b) = a + b := IntWalk.wrap64_in _ (by omega)
  by_cases hg : 1125899906842624 - b < a
  · have hm : mn (a + b) 1125899906842624 = 1125899906842624 := by unfold mn; split <;> omega
    rw [hm]
    clear hm ha hb hw2
    go_enter Try.func51, Try.ntmps51
    go_wp2_with (go_at_call 14; first
      | (with_reducible refine (HA.out _).mono ?_; rintro e w' ⟨rfl, rfl⟩)
      | (with_reducible refine (HB.out _).mono ?_; rintro e w' ⟨rfl, rfl⟩))
    go_ret
    exact ⟨rfl, rfl⟩
  · have hm : mn (a + b) 1125899906842624 = a + b := by unfold mn; split <;> omega
    rw [hm]
    clear hm ha hb
    go_enter Try.func51, Try.ntmps51
    go_wp2_with (go_at_call 14; first
      | (with_reducible refine (HA.out _).mono ?_; rintro e w' ⟨rfl, rfl⟩)
      | (with_reducible refine (HB.out _).mono ?_; rintro e w' ⟨rfl, rfl⟩))
    go_ret
    exact ⟨congrArg (fun z => Ending.returned (Value.int .i64 z)) hw2, rfl⟩

theorem upR_one (g : Int) (hg : g = 1 ∨ g = 2 ∨ g = 4 ∨ g = 8 ∨ g = 16 ∨ g = 32 ∨ g = 64) (t : Int) (w : World) : Calls Try.prog 32 #[.int .i64 t, .int .i64 g] w fun e w' => e = .returned (.int .i64 ((cl t + g - 1) / g * g)) ∧ w = w' := by
  have HX : Hid (∀ w, Calls Try.prog 14 #[.int .i64 t] w fun e w' => e = .returned (.int .i64 (cl t)) ∧ w = w') := Lib.hid (fun w => clampR_p t w)
  have hx := cl_bounds t
  obtain ⟨x, hxx⟩ : ∃ x, x = cl t := ⟨_, rfl⟩
  rw [← hxx] at hx HX ⊢
  have HG : Hid (∀ w, Calls Try.prog 14 #[.int .i64 g] w fun e w' => e = .returned (.int .i64 g) ∧ w = w') := Lib.hid (fun w => by
    have := clampR_p g w
    rwa [cl_same g (by omega) (by omega)] at this)
  obtain ⟨r, hr⟩ : ∃ r, r = x % g := ⟨_, rfl⟩
  have ht : Int.tmod x g = r := by rw [hr, Int.tmod_eq_emod_of_nonneg hx.1]
  have hrb : 0 ≤ r ∧ r < g := by rw [hr]; exact ⟨Int.emod_nonneg _ (by omega), Int.emod_lt_of_pos _ (by omega)⟩
  have hrx : r ≤ x := by rw [hr]; rcases hg with rfl | rfl | rfl | rfl | rfl | rfl | rfl <;> omega
  have HAD := Lib.hid (fun w => addR_p (x - r) g (by omega) (by omega) w)
  have hwr : wrap64 (x - r) = x - r := IntWalk.wrap64_in _ (by omega)
  have hwr2 : wrap64 r = r := IntWalk.wrap64_in _ (by omega)
  have hg0 : g ≠ 0 := by omega
  by_cases h0 : r = 0
  · have he : (x + g - 1) / g * g = x := by rw [h0] at hr; rcases hg with rfl | rfl | rfl | rfl | rfl | rfl | rfl <;> omega
    rw [he]
    rw [h0] at ht
    clear he hr hrb hrx hwr hwr2 hx hxx hg
    go_enter Try.func32, Try.ntmps32
    go_wp2_with (go_at_call 14; first
      | (with_reducible refine (HX.out _).mono ?_; rintro e w' ⟨rfl, rfl⟩)
      | (with_reducible refine (HG.out _).mono ?_; rintro e w' ⟨rfl, rfl⟩))
    go_ret
    exact ⟨rfl, rfl⟩
  · have he : (x + g - 1) / g * g = mn (x - r + g) 1125899906842624 := by unfold mn; rcases hg with rfl | rfl | rfl | rfl | rfl | rfl | rfl <;> split <;> omega
    rw [he]
    clear he hr hrb hrx hx hxx hg
    go_enter Try.func32, Try.ntmps32
    go_wp2_with (first | (go_at_call 14; first
      | (with_reducible refine (HX.out _).mono ?_; rintro e w' ⟨rfl, rfl⟩)
      | (with_reducible refine (HG.out _).mono ?_; rintro e w' ⟨rfl, rfl⟩)) | (go_at_call 51; refine (HAD.out _).mono ?_; rintro e w' ⟨rfl, rfl⟩))
    go_ret
    exact ⟨rfl, rfl⟩

/-- Is it past? -/
theorem pastR_p {G : Int} (h0 : 0 ≤ G) (h1 : G ≤ 6) (x t : Int) (w : World) : Calls Try.prog 15 #[.int .i64 x, .int .i64 t, .int .i64 (pw G)] w fun e w' => e = .returned (.bool (decide (sl G (cl t) * pw G ≤ cl x))) ∧ w = w' := by
  have hc := pw_cases h0 h1
  have HU := Lib.hid (fun w => upR_one (pw G) (by omega) t w)
  have HX := Lib.hid (fun w => clampR_p x w)
  clear hc
  go_enter Try.func15, Try.ntmps15
  go_wp2_with (first | (go_at_call 32; refine (HU.out _).mono ?_; rintro e w' ⟨rfl, rfl⟩) | (go_at_call 14; refine (HX.out _).mono ?_; rintro e w' ⟨rfl, rfl⟩))
  go_ret
  exact ⟨rfl, rfl⟩
end Go.Proofs.Ytmkcckkjkfmheaa.Al

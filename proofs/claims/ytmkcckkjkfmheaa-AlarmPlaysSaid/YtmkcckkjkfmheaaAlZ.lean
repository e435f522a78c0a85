/- Alarm: none. -/
import Derived.Test.YtmkcckkjkfmheaaAa
import Derived.Test.YtmkcckkjkfmheaaAlQ
set_option linter.unusedVariables false
set_option linter.unusedSimpArgs false
set_option maxRecDepth 100000
namespace Go.Proofs.Ytmkcckkjkfmheaa.Al
open Go.RowKit Go.Maps Go.Proofs.Ytmkcckkjkfmheaa.Base Go.Proofs.Ytmkcckkjkfmheaa.Rws Go.Proofs.Ytmkcckkjkfmheaa.Wh Go.Proofs.YtmkcckkjkfmheaaW.PrintWords Go.Proofs.YtmkcckkjkfmheaaW.PrintMore
attribute [local go_sem] max2_mx min2_mn max_two min_two max_three min_three max_four min_four

/-- Alarms that New did not make. -/
def NoA (w : World) (P : Value) : Prop := ∀ W, Only (fun _ => False) w W → Calls Try.prog 25 #[P] W fun e w' => e = .returned (.bool true) ∧ W = w'

theorem NoA.nil (w : World) : NoA w (.pointer none) := fun W _ => none_n W
theorem NoA.zero {w : World} {p : Nat} {cs : Array Value} {t : TypeId} (h : w.heap[p]? = some (.cells cs t (0, 0))) (h0 : cs[0]? = some (.pointer none)) : NoA w (.pointer (some ⟨p, 0, none⟩)) := fun W ho => none_z (cell_at (ho.blk h (fun h => h)) 0 h0)

theorem NoA.only {w w' : World} {P : Value} (h : NoA w P) (ho : Only (fun _ => False) w w') : NoA w' P := fun W hW => h W (ho.trans hW)

section
variable {w : World} {P : Value}
theorem NoA.len (h : NoA w P) : Calls Try.prog 12 #[P] w fun e w' => e = .returned (.int .i64 0) ∧ w = w' := by
  have H := Lib.hid (h w (Only.refl _ _))
  clear h
  go_enter Try.func12, Try.ntmps12
  go_wp2_with (go_at_call 25; refine H.out.mono ?_; rintro e w' ⟨rfl, rfl⟩)
  go_ret
  exact ⟨rfl, rfl⟩

theorem NoA.grain (h : NoA w P) : Calls Try.prog 9 #[P] w fun e w' => e = .returned (.int .i64 0) ∧ w = w' := by
  have H := Lib.hid (h w (Only.refl _ _))
  clear h
  go_enter Try.func9, Try.ntmps9
  go_wp2_with (go_at_call 25; refine H.out.mono ?_; rintro e w' ⟨rfl, rfl⟩)
  go_ret
  exact ⟨rfl, rfl⟩

theorem NoA.due (h : NoA w P) (x : Int) : Calls Try.prog 13 #[P, .int .i64 x] w fun e w' => e = .returned (.slice none 0 0) ∧ w = w' := by
  have H := Lib.hid (h w (Only.refl _ _))
  clear h
  go_enter Try.func13, Try.ntmps13
  go_wp2_with (go_at_call 25; refine H.out.mono ?_; rintro e w' ⟨rfl, rfl⟩)
  go_ret
  exact ⟨rfl, rfl⟩

theorem NoA.all (h : NoA w P) : Calls Try.prog 22 #[P] w fun e w' => e = .returned (.slice none 0 0) ∧ w = w' := by
  have H := Lib.hid (h w (Only.refl _ _))
  clear h
  go_enter Try.func22, Try.ntmps22
  go_wp2_with (go_at_call 25; refine H.out.mono ?_; rintro e w' ⟨rfl, rfl⟩)
  go_ret
  exact ⟨rfl, rfl⟩

theorem NoA.time (h : NoA w P) (k : K5) : Calls Try.prog 17 #[P, k.v] w fun e w' => e = .returned (.tuple #[.int .i64 0, .bool false]) ∧ Only (fun _ => False) w w' := by
  obtain ⟨w1, hw1⟩ : ∃ w1, w1 = w.alloc (boxN k) := ⟨_, rfl⟩
  have ho1 : Only (fun _ => False) w w1 := by rw [hw1]; exact (Only.refl _ w).alloc _
  have H := Lib.hid (h w1 ho1)
  have HO1 := Lib.hid ho1
  obtain ⟨a, b', c, d, e⟩ := k
  unfold K5.v
  unfold boxN at hw1
  simp only at hw1 ⊢
  clear h ho1
  go_enter Try.func17, Try.ntmps17
  go_wp2_with fail
  rw [← hw1]
  clear hw1
  go_wp2_with (go_at_call 25; refine H.out.mono ?_; rintro e w' ⟨rfl, rfl⟩)
  go_ret2
  exact ⟨rfl, HO1.out⟩

theorem NoA.clear (h : NoA w P) (k : K5) : Calls Try.prog 23 #[P, k.v] w fun e w' => e = .returned (.bool false) ∧ Only (fun _ => False) w w' := by
  obtain ⟨w1, hw1⟩ : ∃ w1, w1 = w.alloc (boxN k) := ⟨_, rfl⟩
  have ho1 : Only (fun _ => False) w w1 := by rw [hw1]; exact (Only.refl _ w).alloc _
  have H := Lib.hid (h w1 ho1)
  have HO1 := Lib.hid ho1
  obtain ⟨a, b', c, d, e⟩ := k
  unfold K5.v
  unfold boxN at hw1
  simp only at hw1 ⊢
  clear h ho1
  go_enter Try.func23, Try.ntmps23
  go_wp2_with fail
  rw [← hw1]
  clear hw1
  go_wp2_with (go_at_call 25; refine H.out.mono ?_; rintro e w' ⟨rfl, rfl⟩)
  go_ret
  exact ⟨rfl, HO1.out⟩

theorem NoA.set (h : NoA w P) (k : K5) (t : Int) : Calls Try.prog 10 #[P, k.v, .int .i64 t] w fun e w' => e = .returned (.int .i64 1) ∧ Only (fun _ => False) w w' := by
  obtain ⟨w1, hw1⟩ : ∃ w1, w1 = w.alloc (boxN k) := ⟨_, rfl⟩
  have ho1 : Only (fun _ => False) w w1 := by rw [hw1]; exact (Only.refl _ w).alloc _
  have H := Lib.hid (h w1 ho1)
  have HO1 := Lib.hid ho1
  obtain ⟨a, b', c, d, e⟩ := k
  unfold K5.v
  unfold boxN at hw1
  simp only at hw1 ⊢
  clear h ho1
  go_enter Try.func10, Try.ntmps10
  go_wp2_with fail
  rw [← hw1]
  clear hw1
  go_wp2_with (go_at_call 25; refine H.out.mono ?_; rintro e w' ⟨rfl, rfl⟩)
  go_ret
  exact ⟨rfl, HO1.out⟩
end
end Go.Proofs.Ytmkcckkjkfmheaa.Al

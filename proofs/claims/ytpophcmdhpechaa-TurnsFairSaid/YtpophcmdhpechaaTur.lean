/- The contracts of the functions of turns that the laws reach: what a call answers, and what the turns hold behind it. -/
import Derived.Test.YtpophcmdhpechaaProg
import Derived.Test.YtpophcmdhpechaaBase
import Derived.WalkSpells
set_option linter.unusedVariables false
set_option linter.unusedSimpArgs false
namespace Go.Proofs.Ytpophcmdhpechaa.Tur
open Go.RowKit Go.Proofs.Ytpophcmdhpechaa.Base Go.Proofs.YtpophcmdhpechaaW.PrintWords Go.Proofs.YtpophcmdhpechaaW.PrintMore
attribute [local go_sem] max2_mx min2_mn max_two min_two max_three min_three max_four min_four

theorem info3 : (Try.prog.info? 3).map (fun i => (i.zero, i.size, i.bytes)) = some (some (.int .i64 0), 1, 8) := by kernel_rfl

/-- What Clone leaves. -/
def Cloned (ws : List Int) (w : World) (e : Ending) (w' : World) : Prop :=
  ∃ v, e = .returned v ∧ Kd.R (Kd.int .i64) 3 w' w.heap.size (fun _ => True) v ws ∧ Below w.heap.size w w'

/-- A new row without elements. -/
theorem empty_row (W : World) (base : Nat) (hb : base ≤ W.heap.size) : Kd.R (Kd.int .i64) 3 (W.alloc (.cells #[] 3)) base (fun _ => True) (.slice (some ⟨W.heap.size, 0, none⟩) 0 0) [] := by
  have h := World.ownsRow_lit (base := base) (e := 3) (size := 1) W #[] 0 hb (by simp [maxLen]) (by simp)
  exact Kd.R_of_own (enc := Value.int .i64) (h1 := fun _ => rfl) h (fun _ _ => trivial)

set_option maxHeartbeats 2000000 in
theorem clone_p (ad : Addr) (ws : List Int) (c : Nat) (w : World) (hr : Kd.C (Kd.int .i64) w (some ad) ws.length ws) (hl : ws.length ≤ 64) (hn : 0 < ws.length) :
    Calls Try.prog 33 #[.slice (some ad) ws.length c] w (Cloned ws w) := by
  have HR := Lib.hid hr
  clear hr
  have h1 := fun w : World => Lib.run_eql_slice_nil (P := Try.prog) w 34 3 (some ad) ws.length c 0 0 Try.underlying34
  go_enter Try.func33, Try.ntmps33
  go_wp2_with (first | ((with_reducible refine gate_builtin (b := .append) (xs := #[.tmp 5, .tmp 6]) rfl ?_); at_builtin; refine Kd.R_append_rows (Kd.int .i64) (Rr := (Kd.int .i64).K w) (w0 := w) w.heap.size rfl (.tmp 5) (.tmp 6) 34 3 (.int .i64 0) 8 rfl Try.underlying34 info3 rfl (by decide) (by omega) (.slice (some ⟨w.heap.size, 0, none⟩) 0 0) [] ws (some ad) ws.length c (fun _ => True) (fun _ => False) rfl rfl (empty_row w w.heap.size (Nat.le_refl _)) (Kd.C_alloc HR.out _) (fun _ _ h => h) (fun _ hk => hk.elim) (fun _ _ => trivial) (below_alloc (Below.refl _ _) _) (by simp) (by simp; omega) ?_; intro v1 w1 ho1 hb1 hg1 hat1; have HO1 := Lib.hid ho1; have HB1 := Lib.hid hb1; clear ho1 hb1 hg1 hat1))
  go_ret
  exact ⟨_, rfl, HO1.out, HB1.out⟩

end Go.Proofs.Ytpophcmdhpechaa.Tur

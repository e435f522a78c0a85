/- Alarms of unlike names do not matter to each other. No condition. -/
import Derived.Test.YtmkcckkjkfmheaaArgs
import Derived.Test.YtmkcckkjkfmheaaRows
import Derived.Test.YtmkcckkjkfmheaaAlJ
import Derived.WalkKit
import Derived.ProofKit
import Derived.OpenShut
import Derived.ShutString
import Derived.ChangeOld
import Derived.Below
import Derived.SizedLaws
import Derived.Test.YtmkcckkjkfmheaaWSized
namespace Go.Proofs.Ytmkcckkjkfmheaa.rowAlarmApart
open Go.Proofs.YtmkcckkjkfmheaaW
open Go.ChangeShapes Go.WideShapes Go.ChangeAt Go.RowKit
open Go.ChangeMaps (open_string shut_string)
set_option linter.unusedVariables false
set_option linter.unusedSimpArgs false
theorem own : ownKnob Try.prog.godebug = none := by kernel_rfl
theorem laidOut : laidOutB Try.prog = true := by kernel_rfl
def IsRow (k : IntKind) (w : World) (a : Option Addr) (len cap : Nat) (zs : List Int) : Prop :=
  (a = none ∧ len = 0 ∧ cap = 0 ∧ zs = []) ∨
  ∃ x, a = some x ∧ len ≤ cap ∧ cap ≤ maxLen ∧ zs.length = cap ∧ (∀ i, i < zs.length → w.cell? (x.add i) = some (.int k (zs.getD i 0))) ∧ ∀ n ∈ zs, (Lit.int k n).wf = true
set_option maxRecDepth 100000 in
theorem lifted (os : Os) (started : os.Started) (H : Type) (enc : TypeId × Value → H) :
    ReturnsInHanded {} Try.checked os 5 .any (Rows.alarmApartSpec.pre6 enc Try.prog Try.f5 Rows.alarmApartRow.domain false) (Rows.alarmApartSpec.post enc Try.prog Try.f5 false true false false) := by
  refine returnsInHanded_of_change_sized (C := Try.checked) own started (by kernel_rfl) Try.func5
    (ChangeSpec.witness6 (enc := enc) (C := Try.checked) false ⟨#[], #[.int .i64 0, .agg #[.int .i64 0, .int .i64 0, .int .i64 0, .int .i64 0, .int .i64 0], .agg #[.int .i64 0, .int .i64 0, .int .i64 0, .int .i64 0, .int .i64 0], .int .i64 0, .int .i64 0, .int .i64 0], []⟩ 8 (by kernel_rfl) (by kernel_rfl) (by kernel_rfl) (by kernel_rfl)) ?_
  intro W base args ds gs before hval0 hW hcnd hsz0 _
  have hsz : (DataW.weightsEach Try.prog (Try.f5.params.toList ++ Rows.alarmApartSpec.plain.varTypes Try.prog) (ds ++ gs)).all (· ≤ reachBytes) = true := hsz0
  have hval : ∀ (j : Nat) t v, Try.f5.params[j]? = some t → args[j]? = some v → Value.okWide Try.prog W .any base t v := hval0
  have hW' := hW
  obtain ⟨p, q, hA0, hV, rfl, hfz, hnd⟩ := hW
  have hA : DataW.TrodAll enc Try.prog W 0 (fun _ => true) true Try.f5.params.toList args.toList ds p := hA0
  rw [Try.params5] at hA hval hsz
  obtain ⟨v0, vs0, d0, ds0, p0, q0, hargs, rfl, rfl, h0, r0⟩ := trodAll_cons hA
  obtain ⟨v1, vs1, d1, ds1, p1, q1, rfl, rfl, rfl, h1, r1⟩ := trodAll_cons r0
  obtain ⟨v2, vs2, d2, ds2, p2, q2, rfl, rfl, rfl, h2, r2⟩ := trodAll_cons r1
  obtain ⟨v3, vs3, d3, ds3, p3, q3, rfl, rfl, rfl, h3, r3⟩ := trodAll_cons r2
  obtain ⟨v4, vs4, d4, ds4, p4, q4, rfl, rfl, rfl, h4, r4⟩ := trodAll_cons r3
  obtain ⟨v5, vs5, d5, ds5, p5, q5, rfl, rfl, rfl, h5, r5⟩ := trodAll_cons r4
  obtain ⟨rfl, rfl, rfl⟩ := trodAll_nil r5
  obtain rfl : args = #[v0, v1, v2, v3, v4, v5] := by cases args; simp_all
  obtain ⟨rfl, rfl⟩ := trodVars_none hV
  obtain ⟨a0, rfl, rfl, rfl, w0⟩ := open_int Try.underlying3 (hval 0 3 v0 rfl rfl) h0
  have k1 := h1
  have lt1 : ∀ x ∈ p1, x.block < W.heap.size := by obtain ⟨m, hm⟩ := k1; exact DataW.trod_lt m _ _ _ hm
  have hL1 : Args.flat Try.prog 8 27 = some [(0, Args.Bs.int .i64), (1, Args.Bs.int .i64), (2, Args.Bs.int .i64), (3, Args.Bs.int .i64), (4, Args.Bs.int .i64)] := by kernel_rfl
  obtain ⟨cs1, rfl, hs1⟩ := okWide_struct Try.underlying27 (hval 1 27 v1 rfl rfl)
  have hn1 : cs1.size = 5 := hs1.trans (by kernel_rfl)
  obtain ⟨_, e1_0, x1_0, rfl, u1_0⟩ := Args.agg_cell hL1 h1 0 (Args.Bs.int .i64) (by simp)
  obtain ⟨_, e1_1, x1_1, rfl, u1_1⟩ := Args.agg_cell hL1 h1 1 (Args.Bs.int .i64) (by simp)
  obtain ⟨_, e1_2, x1_2, rfl, u1_2⟩ := Args.agg_cell hL1 h1 2 (Args.Bs.int .i64) (by simp)
  obtain ⟨_, e1_3, x1_3, rfl, u1_3⟩ := Args.agg_cell hL1 h1 3 (Args.Bs.int .i64) (by simp)
  obtain ⟨_, e1_4, x1_4, rfl, u1_4⟩ := Args.agg_cell hL1 h1 4 (Args.Bs.int .i64) (by simp)
  obtain rfl : cs1 = #[.int .i64 x1_0, .int .i64 x1_1, .int .i64 x1_2, .int .i64 x1_3, .int .i64 x1_4] := by
    apply Array.ext_getElem?
    intro q
    by_cases hq : q < 5
    · have hq' : q = 0 ∨ q = 1 ∨ q = 2 ∨ q = 3 ∨ q = 4 := by omega
      rcases hq' with rfl | rfl | rfl | rfl | rfl <;> simp_all
    · rw [Array.getElem?_eq_none (by omega), Array.getElem?_eq_none (by simp; omega)]
  have k2 := h2
  have lt2 : ∀ x ∈ p2, x.block < W.heap.size := by obtain ⟨m, hm⟩ := k2; exact DataW.trod_lt m _ _ _ hm
  have hL2 : Args.flat Try.prog 8 27 = some [(0, Args.Bs.int .i64), (1, Args.Bs.int .i64), (2, Args.Bs.int .i64), (3, Args.Bs.int .i64), (4, Args.Bs.int .i64)] := by kernel_rfl
  obtain ⟨cs2, rfl, hs2⟩ := okWide_struct Try.underlying27 (hval 2 27 v2 rfl rfl)
  have hn2 : cs2.size = 5 := hs2.trans (by kernel_rfl)
  obtain ⟨_, e2_0, x2_0, rfl, u2_0⟩ := Args.agg_cell hL2 h2 0 (Args.Bs.int .i64) (by simp)
  obtain ⟨_, e2_1, x2_1, rfl, u2_1⟩ := Args.agg_cell hL2 h2 1 (Args.Bs.int .i64) (by simp)
  obtain ⟨_, e2_2, x2_2, rfl, u2_2⟩ := Args.agg_cell hL2 h2 2 (Args.Bs.int .i64) (by simp)
  obtain ⟨_, e2_3, x2_3, rfl, u2_3⟩ := Args.agg_cell hL2 h2 3 (Args.Bs.int .i64) (by simp)
  obtain ⟨_, e2_4, x2_4, rfl, u2_4⟩ := Args.agg_cell hL2 h2 4 (Args.Bs.int .i64) (by simp)
  obtain rfl : cs2 = #[.int .i64 x2_0, .int .i64 x2_1, .int .i64 x2_2, .int .i64 x2_3, .int .i64 x2_4] := by
    apply Array.ext_getElem?
    intro q
    by_cases hq : q < 5
    · have hq' : q = 0 ∨ q = 1 ∨ q = 2 ∨ q = 3 ∨ q = 4 := by omega
      rcases hq' with rfl | rfl | rfl | rfl | rfl <;> simp_all
    · rw [Array.getElem?_eq_none (by omega), Array.getElem?_eq_none (by simp; omega)]
  obtain ⟨a3, rfl, rfl, rfl, w3⟩ := open_int Try.underlying3 (hval 3 3 v3 rfl rfl) h3
  obtain ⟨a4, rfl, rfl, rfl, w4⟩ := open_int Try.underlying3 (hval 4 3 v4 rfl rfl) h4
  obtain ⟨a5, rfl, rfl, rfl, w5⟩ := open_int Try.underlying3 (hval 5 3 v5 rfl rfl) h5
  clear hA0 hval0 hsz0 hsz
  refine (Al.apart_walk a0 ⟨x1_0, x1_1, x1_2, x1_3, x1_4⟩ ⟨x2_0, x2_1, x2_2, x2_3, x2_4⟩ ⟨u1_0, u1_1, u1_2, u1_3, u1_4⟩ ⟨u2_0, u2_1, u2_2, u2_3, u2_4⟩ a3 a4 a5 W).mono fun e W' ⟨he, bel⟩ => ?_
  subst he
  exact ⟨_, rfl, _, _, _, [], _, [], hW', trodAll_mk1 (shut_bool Try.underlying4 _), (trodAll_cons_mk (shut_int Try.underlying3 w0) (trodAll_cons_mk (Below.trod laidOut (by kernel_rfl) (of_decide_eq_true (by kernel_rfl)) k1 bel lt1) (trodAll_cons_mk (Below.trod laidOut (by kernel_rfl) (of_decide_eq_true (by kernel_rfl)) k2 bel lt2) (trodAll_cons_mk (shut_int Try.underlying3 w3) (trodAll_cons_mk (shut_int Try.underlying3 w4) (trodAll_cons_mk (shut_int Try.underlying3 w5) trodAll_mk0)))))), rfl, bel.frame _, fun h => by cases h⟩
theorem over : Rows.alarmApartRow.holds Try.pinned (OpenSpec.ofChange Rows.alarmApartSpec) :=
  OpenClaim.holds_of_wide 5 Try.f5 rfl rfl rfl rfl rfl rfl rfl ⟨rfl, rfl, rfl, rfl, rfl⟩ rfl rfl rfl rfl rfl (by kernel_rfl) Try.func5 (by kernel_rfl)
    (of_decide_eq_true (by kernel_rfl)) (by unfold Func.isWrapper; first | (rw [if_pos (by decide +kernel)]; kernel_rfl) | (rw [if_neg (by decide +kernel)]; exact ⟨rfl, rfl⟩))
    (fun os started H enc _ => lifted os started H enc)
theorem proved : Rows.AlarmApartSaid := over
#print axioms proved
end Go.Proofs.Ytmkcckkjkfmheaa.rowAlarmApart
namespace Go.Proofs.Ytmkcckkjkfmheaa
/-- The row, under a short name, for the claim. -/
theorem alarmApart_holds : Rows.AlarmApartSaid := rowAlarmApart.proved
end Go.Proofs.Ytmkcckkjkfmheaa

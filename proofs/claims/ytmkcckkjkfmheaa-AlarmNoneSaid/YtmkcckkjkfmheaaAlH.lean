/- Alarm: nil alarms, and such as New did not make. -/
import Derived.Test.YtmkcckkjkfmheaaAlF
import Derived.Test.YtmkcckkjkfmheaaAlG
set_option linter.unusedVariables false
set_option linter.unusedSimpArgs false
set_option maxRecDepth 100000
namespace Go.Proofs.Ytmkcckkjkfmheaa.Al
open Go.RowKit Go.Maps Go.Proofs.Ytmkcckkjkfmheaa.Base Go.Proofs.Ytmkcckkjkfmheaa.Rws Go.Proofs.Ytmkcckkjkfmheaa.Wh Go.Proofs.YtmkcckkjkfmheaaW.PrintWords Go.Proofs.YtmkcckkjkfmheaaW.PrintMore
attribute [local go_sem] max2_mx min2_mn max_two min_two max_three min_three max_four min_four

set_option maxHeartbeats 16000000 in
theorem none_walk (k : K5) (t : Int) (W : World) : Calls Try.prog 7 #[k.v, .int .i64 t] W fun e w' => e = .returned (.bool true) ∧ Below W.heap.size W w' := by
  obtain ⟨w1, hw1⟩ : ∃ w1, w1 = W.alloc (boxR k) := ⟨_, rfl⟩
  obtain ⟨N, hN⟩ : ∃ N, N = W.heap.size := ⟨_, rfl⟩
  have hb1 : w1.heap[N]? = some (boxR k) := by rw [hw1, hN]; exact heap_alloc_new W _
  have HB1 := Lib.hid hb1
  have HO1 : Hid (Only (fun _ => False) W w1) := by rw [hw1]; exact Lib.hid ((Only.refl _ W).alloc _)
  obtain ⟨⟨a, b', c, d, e⟩, hkk⟩ : ∃ z, z = k := ⟨_, rfl⟩
  have hwk : w1 = W.alloc (.cells #[.int .i64 a, .int .i64 b', .int .i64 c, .int .i64 d, .int .i64 e] 27) := by rw [hw1, ← hkk]; rfl
  have HKK := Lib.hid hkk
  have hkv : k.v = .agg #[.int .i64 a, .int .i64 b', .int .i64 c, .int .i64 d, .int .i64 e] := by rw [← hkk]; rfl
  rw [hkv]
  have HKV := Lib.hid hkv
  clear hw1 hb1 hkk hkv
  go_enter Try.func7, Try.ntmps7
  go_upto_region 1 with fail
  rw [← hwk, ← hN]
  clear hwk hN
  obtain ⟨M, hM⟩ : ∃ M, M = w1.heap.size := ⟨_, rfl⟩
  obtain ⟨w2, hw2⟩ : ∃ w2, w2 = w1.alloc (.cells #[.pointer none, .int .i64 0, .map none, .map none, .map none] 65) := ⟨_, rfl⟩
  obtain ⟨w3, hw3⟩ : ∃ w3, w3 = w2.alloc (.cells #[.pointer none, .pointer (some ⟨M, 0, none⟩)] 28) := ⟨_, rfl⟩
  have hs2 : w2.heap.size = M + 1 := by rw [hw2, hM]; show (w1.heap.push _).size = _; simp
  have hNM : N < M := by rw [hM]; exact blk_lt HB1.out
  have hz2 : w2.heap[M]? = some (.cells #[.pointer none, .int .i64 0, .map none, .map none, .map none] 65 (0, 0)) := by rw [hw2, hM]; exact heap_alloc_new w1 _
  have hz3 : w3.heap[M]? = some (.cells #[.pointer none, .int .i64 0, .map none, .map none, .map none] 65 (0, 0)) := by rw [hw3]; exact (heap_alloc_old w2 _ (by omega)).trans hz2
  have hr3 : w3.heap[M + 1]? = some (.cells #[.pointer none, .pointer (some ⟨M, 0, none⟩)] 28 (0, 0)) := by rw [hw3, ← hs2]; exact heap_alloc_new w2 _
  have ho3 : Only (fun _ => False) w1 w3 := by rw [hw3, hw2]; exact ((Only.refl _ w1).alloc _).alloc _
  have HB3 := Lib.hid (ho3.blk HB1.out (fun h => h))
  have HZ0 : Hid (NoA w3 (.pointer none)) := Lib.hid (NoA.nil w3)
  have HZ1 : Hid (NoA w3 (.pointer (some ⟨M, 0, none⟩))) := Lib.hid (NoA.zero hz3 rfl)
  have HR3 := Lib.hid hr3
  have HOW : Hid (Only (fun _ => False) W w3) := Lib.hid (HO1.out.trans ho3)
  have HMI := Lib.hid (fun w => mine_p k w)
  rw [HKV.out] at HMI
  clear hz2 hz3 hr3 ho3 hNM
  go_upto_region 3 with fail
  rw [← hw2, ← hM, ← hw3]
  clear hw2 hM hw3 hs2
  go_upto_region 4 with fail
  go_loopw [7, 8, 9] (fun v7 _ _ wr => ∃ i : Nat, v7 = .int .i64 (i : Int) ∧ i ≤ 2 ∧ Hid (Only (fun _ => False) w3 wr)) (fun v7 _ _ _ => 2 - (RowKit.intOf v7).toNat)
  case atStart => exact ⟨0, rfl, by decide, Lib.hid (Only.refl _ _)⟩
  case round =>
    obtain ⟨i, rfl, hi, HOc⟩ := hrel
    have hgo : i < 2 ∨ i = 2 := by omega
    rcases hgo with hlt | rfl
    · have hlt' : (i : Int) < 2 := by omega
      obtain ⟨P, HP, HX⟩ : ∃ P : Value, Hid (NoA w3 P) ∧ Hid (∀ V, Only (fun _ => False) w3 V → V.cell? ⟨M + 1, i, none⟩ = some P) := by
        have hi2 : i = 0 ∨ i = 1 := by omega
        rcases hi2 with rfl | rfl
        · exact ⟨_, HZ0, Lib.hid (fun V hV => cell_at (hV.blk HR3.out (fun h => h)) 0 rfl)⟩
        · exact ⟨_, HZ1, Lib.hid (fun V hV => cell_at (hV.blk HR3.out (fun h => h)) 1 rfl)⟩
      have KE : Hid (∀ V, Only (fun _ => False) w3 V → V.cell? ⟨M + 1, i, none⟩ = some P ∧ V.cell? ⟨N, 0, none⟩ = some (.int .i64 a) ∧ V.cell? ⟨N, 1, none⟩ = some (.int .i64 b') ∧ V.cell? ⟨N, 2, none⟩ = some (.int .i64 c) ∧ V.cell? ⟨N, 3, none⟩ = some (.int .i64 d) ∧ V.cell? ⟨N, 4, none⟩ = some (.int .i64 e)) := Lib.hid (fun V hV => by
        have hb := hV.blk HB3.out (fun h => h)
        rw [← HKK.out] at hb
        exact ⟨HX.out V hV, cell_at hb 0 rfl, cell_at hb 1 rfl, cell_at hb 2 rfl, cell_at hb 3 rfl, cell_at hb 4 rfl⟩)
      have HT : Hid (∀ V, Only (fun _ => False) w3 V → _) := Lib.hid (fun V hV => (HP.out.only hV).time k)
      have HS : Hid (∀ V, Only (fun _ => False) w3 V → _) := Lib.hid (fun V hV => (HP.out.only hV).set k t)
      have HC : Hid (∀ V, Only (fun _ => False) w3 V → _) := Lib.hid (fun V hV => (HP.out.only hV).clear k)
      have HD : Hid (∀ V, Only (fun _ => False) w3 V → _) := Lib.hid (fun V hV => (HP.out.only hV).due t)
      have HA : Hid (∀ V, Only (fun _ => False) w3 V → _) := Lib.hid (fun V hV => (HP.out.only hV).all)
      have HL : Hid (∀ V, Only (fun _ => False) w3 V → _) := Lib.hid (fun V hV => (HP.out.only hV).len)
      have HG : Hid (∀ V, Only (fun _ => False) w3 V → _) := Lib.hid (fun V hV => (HP.out.only hV).grain)
      rw [HKV.out] at HT HS HC
      clear hi HX
      go_upto_region 6 with fail
      go_region_held3 (fun V => V.cell? ⟨M + 1, i, none⟩ = some P ∧ V.cell? ⟨N, 0, none⟩ = some (.int .i64 a) ∧ V.cell? ⟨N, 1, none⟩ = some (.int .i64 b') ∧ V.cell? ⟨N, 2, none⟩ = some (.int .i64 c) ∧ V.cell? ⟨N, 3, none⟩ = some (.int .i64 d) ∧ V.cell? ⟨N, 4, none⟩ = some (.int .i64 e)) (first | exact KE.out _ HOc.out | exact KE.out _ HOc.out.drew) (first
        | (go_at_call 11; refine (HMI.out _).mono ?_; rintro en w4 ⟨rfl, ho⟩; have HOd : Hid (Only (fun _ => False) w3 w4) := Lib.hid (by first | exact HOc.out.trans ho | exact HOc.out.drew.trans ho); clear HOc ho; have HOc := HOd; clear HOd)
        | (go_at_call 17; (first | refine (HT.out _ HOc.out).mono ?_ | refine (HT.out _ HOc.out.drew).mono ?_); rintro en w5 ⟨rfl, ho⟩; have HOd : Hid (Only (fun _ => False) w3 w5) := Lib.hid (by first | exact HOc.out.trans ho | exact HOc.out.drew.trans ho); clear HOc ho; have HOc := HOd; clear HOd))
      go_upto_region 7 with fail
      go_region_held3 (fun V => V.cell? ⟨M + 1, i, none⟩ = some P ∧ V.cell? ⟨N, 0, none⟩ = some (.int .i64 a) ∧ V.cell? ⟨N, 1, none⟩ = some (.int .i64 b') ∧ V.cell? ⟨N, 2, none⟩ = some (.int .i64 c) ∧ V.cell? ⟨N, 3, none⟩ = some (.int .i64 d) ∧ V.cell? ⟨N, 4, none⟩ = some (.int .i64 e)) (first | exact KE.out _ HOc.out | exact KE.out _ HOc.out.drew) (first
        | (go_at_call 11; refine (HMI.out _).mono ?_; rintro en w6 ⟨rfl, ho⟩; have HOd : Hid (Only (fun _ => False) w3 w6) := Lib.hid (by first | exact HOc.out.trans ho | exact HOc.out.drew.trans ho); clear HOc ho; have HOc := HOd; clear HOd)
        | (go_at_call 10; (first | refine (HS.out _ HOc.out).mono ?_ | refine (HS.out _ HOc.out.drew).mono ?_); rintro en w7 ⟨rfl, ho⟩; have HOd : Hid (Only (fun _ => False) w3 w7) := Lib.hid (by first | exact HOc.out.trans ho | exact HOc.out.drew.trans ho); clear HOc ho; have HOc := HOd; clear HOd)
        | (go_at_call 23; (first | refine (HC.out _ HOc.out).mono ?_ | refine (HC.out _ HOc.out.drew).mono ?_); rintro en w8 ⟨rfl, ho⟩; have HOd : Hid (Only (fun _ => False) w3 w8) := Lib.hid (by first | exact HOc.out.trans ho | exact HOc.out.drew.trans ho); clear HOc ho; have HOc := HOd; clear HOd)
        | (go_at_call 13; (first | refine (HD.out _ HOc.out).mono ?_ | refine (HD.out _ HOc.out.drew).mono ?_); rintro en w9 ⟨rfl, rfl⟩)
        | (go_at_call 22; (first | refine (HA.out _ HOc.out).mono ?_ | refine (HA.out _ HOc.out.drew).mono ?_); rintro en w9 ⟨rfl, rfl⟩)
        | (go_at_call 12; (first | refine (HL.out _ HOc.out).mono ?_ | refine (HL.out _ HOc.out.drew).mono ?_); rintro en w9 ⟨rfl, rfl⟩)
        | (go_at_call 9; (first | refine (HG.out _ HOc.out).mono ?_ | refine (HG.out _ HOc.out.drew).mono ?_); rintro en w9 ⟨rfl, rfl⟩))
      go_wp2
      go_roundw
      case rel => exact ⟨i + 1, by go_num, by omega, HOc⟩
      case measure => simp [RowKit.intOf]; omega
    · have hge : ¬ ((2 : Nat) : Int) < 2 := by omega
      go_wp2_with (go_at_call 16; refine (awake_p _).mono ?_; rintro en w9 ⟨rfl, ho9⟩; have HO9 := Lib.hid ho9; clear ho9)
      go_ret
      exact ⟨rfl, below_of ((HOW.out.trans HOc.out).trans HO9.out)⟩
end Go.Proofs.Ytmkcckkjkfmheaa.Al

/- Alarm: the document's Clear. -/
import Derived.Test.YtmkcckkjkfmheaaRa
set_option linter.unusedVariables false
set_option linter.unusedSimpArgs false
set_option maxRecDepth 100000
namespace Go.Proofs.Ytmkcckkjkfmheaa.Al
open Go.RowKit Go.Maps Go.Proofs.Ytmkcckkjkfmheaa.Base Go.Proofs.Ytmkcckkjkfmheaa.Rws Go.Proofs.Ytmkcckkjkfmheaa.Wh Go.Proofs.YtmkcckkjkfmheaaW.PrintWords Go.Proofs.YtmkcckkjkfmheaaW.PrintMore
attribute [local go_sem] max2_mx min2_mn max_two min_two max_three min_three max_four min_four
attribute [local go_sem high] eqK27 eqK33

/-- What a call leaves of the document's alarms. -/
def PostA (w : World) (r : Nat) (g now : Int) (R : List NT) (w' : World) : Prop :=
  ∃ v', RA w' r g now v' R ∧ (∀ q, v'.ownBlock = some q → w.heap.size ≤ q) ∧ Only (fun q => q = r) w w'

theorem RA.setVal {w : World} {r : Nat} {g now : Int} {v v' : Value} {R R' : List NT} {P : Nat → Prop} (h : RA w r g now v R) (h2 : Rr w P v' R') : RA (w.setCell ⟨r, 0, none⟩ v') r g now v' R' ∧ Only (fun k => k = r) w (w.setCell ⟨r, 0, none⟩ v') := by
  have ho1 : Only (fun k => k = r) w (w.setCell ⟨r, 0, none⟩ v') := (Only.refl (fun k => k = r) w).setCell (p := ⟨r, 0, none⟩) (.inl rfl) _
  exact ⟨⟨blk_set h.blk 0 _, Row.to (Row.only h2 ho1 (fun q hq e => Row.ne h2 h.blk (by decide) (by rw [hq, e]))) (fun _ _ => trivial)⟩, ho1⟩

/-- Without a name. -/
def cutN (k : K5) (R : List NT) : List NT := R.filter (fun p => decide (p.1 ≠ k))

theorem cutN_len (k : K5) (R : List NT) : (cutN k R).length ≤ R.length := List.length_filter_le _ _

theorem cutN_step {k : K5} {R : List NT} {i : Nat} {p : NT} (h : R[i]? = some p) : cutN k (R.take (i + 1)) = cutN k (R.take i) ++ (if p.1 = k then [] else [p]) := by
  unfold cutN
  rw [List.take_add_one, h, Option.toList_some, List.filter_append]
  congr 1
  by_cases he : p.1 = k <;> simp [he]

set_option maxHeartbeats 16000000 in
theorem rclear_p {w : World} {r : Nat} {g now : Int} {v : Value} {R : List NT} (k : K5) (h : RA w r g now v R) (hR : R.length ≤ 10000) :
    Calls Try.prog 38 #[.pointer (some ⟨r, 0, none⟩), k.v] w fun e w' => e = .returned (.bool (tOf R k).2) ∧ PostA w r g now (cutN k R) w' := by
  obtain ⟨w1, hw1⟩ : ∃ w1, w1 = w.alloc (boxR k) := ⟨_, rfl⟩
  obtain ⟨N, hN⟩ : ∃ N, N = w.heap.size := ⟨_, rfl⟩
  have hb1 : w1.heap[N]? = some (boxR k) := by rw [hw1, hN]; exact heap_alloc_new w _
  have ho1 : Only (fun _ => False) w w1 := by rw [hw1]; exact (Only.refl _ w).alloc _
  have h1 := h.only ho1 (fun _ _ h => h)
  have HTI := Lib.hid (rtime_p k h1 hR)
  have HB1 := Lib.hid hb1
  have HO1 := Lib.hid ho1
  have HR := Lib.hid h1
  obtain ⟨A, c, hv⟩ := h.form
  obtain ⟨M, hM⟩ : ∃ M, M = R.length := ⟨_, rfl⟩
  rw [← hM] at hv
  subst hv
  have HM := Lib.hid hM
  have hMb : M ≤ 10000 := by omega
  obtain ⟨⟨a, b', c', d, e⟩, hkk⟩ : ∃ z, z = k := ⟨_, rfl⟩
  have HKK := Lib.hid hkk
  have hwk : w1 = w.alloc (.cells #[.int .i64 a, .int .i64 b', .int .i64 c', .int .i64 d, .int .i64 e] 27) := by rw [hw1, ← hkk]; rfl
  have hkv : k.v = .agg #[.int .i64 a, .int .i64 b', .int .i64 c', .int .i64 d, .int .i64 e] := by rw [← hkk]; rfl
  rw [hkv] at HTI ⊢
  have HYC : Hid (∀ V, Only (fun _ => False) w1 V → V.cell? ⟨N, 0, none⟩ = some (.int .i64 a) ∧ V.cell? ⟨N, 1, none⟩ = some (.int .i64 b') ∧ V.cell? ⟨N, 2, none⟩ = some (.int .i64 c') ∧ V.cell? ⟨N, 3, none⟩ = some (.int .i64 d) ∧ V.cell? ⟨N, 4, none⟩ = some (.int .i64 e)) := Lib.hid (fun V hV => by
    have := hV.blk hb1 (fun h => h)
    rw [← hkk] at this
    exact boxR_cells this)
  obtain ⟨⟨tt, ok⟩, hto⟩ : ∃ z, z = tOf R k := ⟨_, rfl⟩
  rw [← hto] at HTI ⊢
  simp only at HTI ⊢
  obtain ⟨y0, y1, y2, y3, y4⟩ := HYC.out w1 (Only.refl _ _)
  clear h h1 hb1 ho1 hR hM hw1 hkk hkv hto
  go_enter Try.func38, Try.ntmps38
  go_upto_region 1 with fail
  rw [← hwk, ← hN]
  clear hwk hN
  go_upto_region 4 with (go_at_call 41; refine HTI.out.mono ?_; rintro en w2 ⟨rfl, ho2⟩; have HO2 := Lib.hid ho2; clear ho2)
  clear y0 y1 y2 y3 y4
  go_loopw [7, 8] (fun v7 v8 wr => ∃ i : Nat, v8 = .int .i64 (i : Int) ∧ i ≤ M ∧ Hid (Rr wr (fun q => w1.heap.size ≤ q) v7 (cutN k (R.take i))) ∧ Hid (Only (fun _ => False) w1 wr)) (fun _ v8 _ => M - (RowKit.intOf v8).toNat)
  case atStart => exact ⟨0, rfl, Nat.zero_le _, Lib.hid (Row.nil _ _ _ _), HO2⟩
  case round =>
    obtain ⟨i, rfl, hi, HK, HO⟩ := hrel
    have hra := HR.out.only HO.out (fun _ _ h => h)
    have x0 := hra.c0
    have HRA := Lib.hid hra
    have hgo : i < M ∨ i = M := by omega
    rcases hgo with hlt | rfl
    · have hlt' : (i : Int) < (M : Int) := by omega
      have hio : i < R.length := by rw [← HM.out]; exact hlt
      have hge : R[i]? = some R[i] := List.getElem?_eq_getElem hio
      obtain ⟨p, hp⟩ : ∃ p, p = R[i] := ⟨_, rfl⟩
      rw [← hp] at hge
      obtain ⟨q, o, c2, hs, _⟩ := Row.some_ hra.row (by omega)
      injection hs with s1 s2 s3
      subst s1 s3
      have hz := Rr.at_ hra.row HM.out hge
      have HZ := Lib.hid hz
      obtain ⟨z0, z1, z2, z3, z4, z5⟩ := hz
      obtain ⟨y0, y1, y2, y3, y4⟩ := HYC.out wr HO.out
      have HGE := Lib.hid hge
      have HCL : Hid ((cutN k (R.take i)).length ≤ 20000) := Lib.hid (by have := cutN_len k (R.take i); rw [List.length_take] at this; omega)
      obtain ⟨⟨pa, pb, pc, pd, pe⟩, pt⟩ := p
      simp only at z0 z1 z2 z3 z4 z5
      obtain ⟨bz, hbz⟩ : ∃ bz, bz = eqK ⟨pa, pb, pc, pd, pe⟩ ⟨a, b', c', d, e⟩ := ⟨_, rfl⟩
      have HBZ : Hid (bz = decide ((⟨pa, pb, pc, pd, pe⟩ : K5) = k)) := Lib.hid (by rw [hbz, eqK_dec, HKK.out])
      have hbz2 := hbz.symm
      clear hge hp hio hra s2 hbz
      go_upto_region 6 with fail
      cases bz with
      | true =>
        go_quiet (fail)
        go_wp2
        go_roundw
        case rel =>
          refine ⟨i + 1, by go_num, by omega, Lib.hid ?_, Lib.hid (HO.out.drewN _)⟩
          rw [cutN_step HGE.out, if_pos (of_decide_eq_true HBZ.out.symm), List.append_nil]
          exact Row.only HK.out ((Only.refl (fun _ => False) wr).drewN _) (fun _ _ h => h)
        case measure => simp [RowKit.intOf]; omega
      | false =>
        go_quiet (fail)
        obtain ⟨w5, hw5⟩ : ∃ w5, w5 = wr.drewN nq := ⟨_, rfl⟩
        rw [← hw5]
        have HOd : Hid (Only (fun _ => False) wr w5) := by rw [hw5]; exact Lib.hid ((Only.refl _ wr).drewN _)
        clear hw5 x0 z0 z1 z2 z3 z4 z5 y0 y1 y2 y3 y4
        have hra5 := HRA.out.only HOd.out (fun _ _ h => h)
        have x0 := hra5.c0
        obtain ⟨z0, z1, z2, z3, z4, z5⟩ := Rr.at_ hra5.row HM.out HGE.out
        simp only at z0 z1 z2 z3 z4 z5
        have HK5 := Lib.hid (Row.only HK.out HOd.out (fun _ _ h => h))
        obtain ⟨v6, w6, hr6, k6, o6⟩ := Rr.app HK5.out (fun k hk => by have h1 := HO.out.size; have h2 := HOd.out.size; omega) HCL.out ⟨⟨pa, pb, pc, pd, pe⟩, pt⟩ 41
        unfold boxT at hr6
        have HR6 := Lib.hid hr6
        have HK6 := Lib.hid k6
        have HO6 : Hid (Only (fun _ => False) w1 w6) := Lib.hid ((HO.out.trans HOd.out).then_ o6 (fun q hq => .inr (Row.own HK5.out hq).1))
        clear hra5 hr6 k6 o6
        go_wp2_with ((with_reducible refine gate_builtin (b := .append) (xs := #[.tmp 34, .tmp 42]) rfl ?_); at_builtin; go_loud (refine Go.Lib.wpList_append_run_sl _ rfl (.tmp 34) (.tmp 42) 41 rfl _ _ rfl rfl HR6.out ?_))
        go_roundw
        case rel =>
          refine ⟨i + 1, by go_num, by omega, Lib.hid ?_, HO6⟩
          rw [cutN_step HGE.out, if_neg (of_decide_eq_false HBZ.out.symm)]
          exact HK6.out
        case measure => simp [RowKit.intOf]; omega
    · have hge : ¬ (i : Int) < i := by omega
      have hf0 := hra.frozen 0
      have HKF : Hid (Rr wr (fun q => w1.heap.size ≤ q) u7 (cutN k R)) := Lib.hid (by have := HK.out; rwa [HM.out, List.take_length] at this)
      clear hra
      obtain ⟨A7, c7, hv7, _⟩ := Row.form HKF.out
      obtain ⟨m7, hm7⟩ : ∃ m7, m7 = (cutN k R).length := ⟨_, rfl⟩
      rw [← hm7] at hv7
      subst hv7
      clear hm7
      go_wp2
      go_ret
      obtain ⟨hs7, ho7⟩ := HRA.out.setVal HKF.out
      exact ⟨rfl, _, hs7, fun q hq => by have h1 := (Row.own HKF.out hq).1; have h2 := HO1.out.size; omega, ((HO1.out.trans HO.out).mono (fun _ h => h.elim)).trans ho7⟩
end Go.Proofs.Ytmkcckkjkfmheaa.Al

/- Alarm: the document's New, Due. -/
import Derived.Test.YtmkcckkjkfmheaaRb
set_option linter.unusedVariables false
set_option linter.unusedSimpArgs false
set_option maxRecDepth 100000
namespace Go.Proofs.Ytmkcckkjkfmheaa.Al
open Go.RowKit Go.Maps Go.Proofs.Ytmkcckkjkfmheaa.Base Go.Proofs.Ytmkcckkjkfmheaa.Rws Go.Proofs.Ytmkcckkjkfmheaa.Wh Go.Proofs.YtmkcckkjkfmheaaW.PrintWords Go.Proofs.YtmkcckkjkfmheaaW.PrintMore
attribute [local go_sem] max2_mx min2_mn max_two min_two max_three min_three max_four min_four
attribute [local go_sem high] eqK27 eqK33

theorem pw_step {i : Nat} (h : i < 6) : pw ((i + 1 : Nat) : Int) = pw (i : Int) * 2 := by
  have : i = 0 ∨ i = 1 ∨ i = 2 ∨ i = 3 ∨ i = 4 ∨ i = 5 := by omega
  rcases this with rfl | rfl | rfl | rfl | rfl | rfl <;> rfl

theorem pw_nat {i : Nat} (h : i ≤ 6) : 1 ≤ pw (i : Int) ∧ pw (i : Int) ≤ 64 := by
  have := pw_cases (G := (i : Int)) (by omega) (by omega)
  omega

theorem rnew_p (x : Int) (w : World) : Calls Try.prog 20 #[.int .i64 x] w fun e w' => ∃ r, e = .returned (.pointer (some ⟨r, 0, none⟩)) ∧ RA w' r (pw (clg x)) 0 (.slice none 0 0) [] ∧ w.heap.size ≤ r ∧ Only (fun _ => False) w w' := by
  go_enter Try.func20, Try.ntmps20
  go_upto_region 3 with fail
  go_loopw [3, 4] (fun v3 v4 wr => ∃ i : Nat, v4 = .int .i64 (i : Int) ∧ i ≤ 6 ∧ (i : Int) ≤ mx x 0 ∧ v3 = .int .i64 (pw (i : Int)) ∧ wr = w) (fun _ v4 _ => 6 - (RowKit.intOf v4).toNat)
  case atStart => exact ⟨0, rfl, by decide, by unfold mx; split <;> omega, rfl, rfl⟩
  case round =>
    obtain ⟨i, rfl, hi, hix, rfl, rfl⟩ := hrel
    have hgo : ((i : Int) < x ∧ i < 6) ∨ ((i : Int) < x ∧ i = 6) ∨ ¬ (i : Int) < x := by omega
    obtain ⟨q, hq⟩ : ∃ q, q = pw (i : Int) := ⟨_, rfl⟩
    have hqb := pw_nat hi
    rw [← hq] at hqb ⊢
    rcases hgo with ⟨h1, h2⟩ | ⟨h1, h2⟩ | h1
    · have h2' : (i : Int) < 6 := by omega
      have HQ : Hid (pw ((i + 1 : Nat) : Int) = q * 2) := Lib.hid (by rw [pw_step h2, hq])
      have HX : Hid (((i + 1 : Nat) : Int) ≤ mx x 0) := Lib.hid (by unfold mx; split <;> omega)
      have hw : wrap64 (q * 2) = q * 2 := IntWalk.wrap64_in _ (by omega)
      clear hq hix
      go_wp2
      go_roundw
      case rel => exact ⟨i + 1, by go_num, by omega, HX.out, by rw [HQ.out], trivial⟩
      case measure => simp [RowKit.intOf]; omega
    · have h2' : ¬ (i : Int) < 6 := by omega
      have HQ : Hid (q = pw (clg x)) := Lib.hid (by
        have : clg x = (i : Int) := by unfold clg mn; unfold mx at hix ⊢; split at hix <;> split <;> omega
        rw [this, hq])
      clear hq hix
      go_wp2
      go_ret
      rw [← HQ.out]
      exact ⟨_, rfl, ⟨heap_alloc_new _ _, Row.nil _ _ _ _⟩, Nat.le_refl _, (Only.refl _ _).alloc _⟩
    · have HQ : Hid (q = pw (clg x)) := Lib.hid (by
        have : clg x = (i : Int) := by unfold clg mn; unfold mx at hix ⊢; split at hix <;> split <;> omega
        rw [this, hq])
      clear hq hix
      go_wp2
      go_ret
      rw [← HQ.out]
      exact ⟨_, rfl, ⟨heap_alloc_new _ _, Row.nil _ _ _ _⟩, Nat.le_refl _, (Only.refl _ _).alloc _⟩

/-- What is due, and what is left. -/
def dueR (G n : Int) (R : List NT) : List NT := R.filter (fun p => decide (sl G p.2 * pw G ≤ n))
def leftR (G n : Int) (R : List NT) : List NT := R.filter (fun p => decide (n < sl G p.2 * pw G))

theorem due_take {G n : Int} {R : List NT} {i : Nat} {p : NT} (h : R[i]? = some p) : dueR G n (R.take (i + 1)) = dueR G n (R.take i) ++ (if sl G p.2 * pw G ≤ n then [p] else []) ∧ leftR G n (R.take (i + 1)) = leftR G n (R.take i) ++ (if sl G p.2 * pw G ≤ n then [] else [p]) := by
  unfold dueR leftR
  rw [List.take_add_one, h, Option.toList_some, List.filter_append, List.filter_append]
  by_cases he : sl G p.2 * pw G ≤ n
  · have h2 : ¬ n < sl G p.2 * pw G := by omega
    simp [he, h2]
  · have h2 : n < sl G p.2 * pw G := by omega
    simp [he, h2]

def DueRP (w : World) (r : Nat) (G n : Int) (R : List NT) (e : Ending) (w' : World) : Prop :=
  ∃ vo v', e = .returned vo ∧ Nr w' (fun q => w.heap.size ≤ q) vo ((dueR G n R).map Prod.fst) ∧ RA w' r (pw G) n v' (leftR G n R) ∧ (∀ q, v'.ownBlock = some q → w.heap.size ≤ q) ∧ Only (fun q => q = r) w w'

theorem RA.setNow {w : World} {r : Nat} {g now : Int} {v : Value} {R : List NT} (h : RA w r g now v R) (n : Int) : RA (w.setCell ⟨r, 2, none⟩ (.int .i64 n)) r g n v R ∧ Only (fun k => k = r) w (w.setCell ⟨r, 2, none⟩ (.int .i64 n)) := by
  have ho1 : Only (fun k => k = r) w (w.setCell ⟨r, 2, none⟩ (.int .i64 n)) := (Only.refl (fun k => k = r) w).setCell (p := ⟨r, 2, none⟩) (.inl rfl) _
  exact ⟨⟨blk_set h.blk 2 _, Row.only h.row ho1 (fun q hq e => h.ne (by rw [hq, e]))⟩, ho1⟩

theorem Row.apart {sz sz' : Nat} {e e' : TypeId} {w : World} {P P' : Nat → Prop} {v v' : Value} {n n' : Nat} {xs xs' : List Value} (h : Row sz e w P v n xs) (h' : Row sz' e' w P' v' n' xs') (he : e ≠ e') {k : Nat} (hk : v.ownBlock = some k) : v'.ownBlock ≠ some k := by
  rcases h with ⟨rfl, _⟩ | ⟨q, o, c, cells, rfl, _, hh, _⟩
  · simp [Value.ownBlock] at hk
  · simp [Value.ownBlock] at hk
    subst hk
    exact Row.ne h' hh he

theorem dueR_len (G n : Int) (R : List NT) : (dueR G n R).length ≤ R.length := List.length_filter_le _ _
theorem leftR_len (G n : Int) (R : List NT) : (leftR G n R).length ≤ R.length := List.length_filter_le _ _

set_option maxHeartbeats 16000000 in
theorem rdue_p {w : World} {r : Nat} {G now : Int} {v : Value} {R : List NT} (h : RA w r (pw G) now v R) (h0 : 0 ≤ G) (h1 : G ≤ 6) (x : Int) (hR : R.length ≤ 1000) (hnow : 0 ≤ now ∧ now ≤ 1125899906842624) (hT : ∀ p ∈ R, 0 ≤ p.2 ∧ p.2 ≤ 1125899906842624) {n : Int} (hn : n = mx (cl x) now) :
    Calls Try.prog 40 #[.pointer (some ⟨r, 0, none⟩), .int .i64 x] w (DueRP w r G n R) := by
  have HCX : Hid (∀ w, Calls Try.prog 14 #[.int .i64 x] w fun e w' => e = .returned (.int .i64 (cl x)) ∧ w' = w) := Lib.hid (fun w => (clampR_p x w).mono fun _ _ h => ⟨h.1, h.2.symm⟩)
  have hxb := cl_bounds x
  obtain ⟨y, hy⟩ : ∃ y, y = cl x := ⟨_, rfl⟩
  rw [← hy] at HCX hn hxb
  have hnb : 0 ≤ n ∧ n ≤ 1125899906842624 := by rw [hn]; unfold mx; split <;> omega
  have HPA : Hid (∀ p ∈ R, ∀ w, Calls Try.prog 15 #[.int .i64 n, .int .i64 p.2, .int .i64 (pw G)] w fun e w' => e = .returned (.bool (decide (sl G p.2 * pw G ≤ n))) ∧ w' = w) := Lib.hid (fun p hp w => by
    have h := pastR_p h0 h1 n p.2 w
    rw [cl_same n hnb.1 hnb.2, cl_same p.2 (hT p hp).1 (hT p hp).2] at h
    exact h.mono fun _ _ h => ⟨h.1, h.2.symm⟩)
  obtain ⟨A, c, hv⟩ := h.form
  obtain ⟨M, hM⟩ : ∃ M, M = R.length := ⟨_, rfl⟩
  rw [← hM] at hv
  subst hv
  have HM := Lib.hid hM
  have hMb : M ≤ 1000 := by omega
  have HH := Lib.hid h
  have x2 := h.c2
  have f2 := h.frozen 2
  have HNN := Lib.hid hn
  obtain ⟨g, hg⟩ : ∃ g, g = pw G := ⟨_, rfl⟩
  have HGG := Lib.hid hg
  rw [← hg] at HH
  clear h h0 h1 hR hnow hT hn hxb hy hnb hM hg
  by_cases hyn : now < y
  case' pos =>
    go_enter Try.func40, Try.ntmps40
    go_upto_region 1 with fail
    go_quiet ((go_at_call 14; exact Calls.quiet_of_same (HCX.out _)))
    have hd : decide (now < y) = true := decide_eq_true hyn
    obtain ⟨w1, hw1⟩ : ∃ w1, w1 = w.drewN nq := ⟨_, rfl⟩
    have ho1 : Only (fun _ => False) w w1 := by rw [hw1]; exact (Only.refl _ w).drewN _
    rw [← hw1]
    clear hw1 x2 f2
    have hr1 := HH.out.only ho1 (fun _ _ h => h)
    have x2 := hr1.c2
    have f2 := hr1.frozen 2
    have HNY : Hid (n = y) := Lib.hid (by rw [HNN.out]; unfold mx; split <;> omega)
    obtain ⟨w2, hw2⟩ : ∃ w2, w2 = w1.setCell ⟨r, 2, none⟩ (.int .i64 y) := ⟨_, rfl⟩
    have HS2 : Hid (RA w2 r g n (.slice A M c) R) := Lib.hid (by rw [hw2, HNY.out]; exact (hr1.setNow y).1)
    have HO2 : Hid (Only (fun q => q = r) w w2) := Lib.hid (by rw [hw2]; exact (ho1.mono (fun _ h => h.elim)).trans (hr1.setNow y).2)
    clear hr1 ho1 hyn
    go_upto_region 3 with (go_at_call 14; refine (HCX.out _).mono ?_; rintro en w' ⟨rfl, rfl⟩)
    rw [← hw2]
    clear hw2
  case' neg =>
    have hd : decide (now < y) = false := decide_eq_false hyn
    go_enter Try.func40, Try.ntmps40
    go_upto_region 1 with fail
    go_quiet ((go_at_call 14; exact Calls.quiet_of_same (HCX.out _)))
    obtain ⟨w2, hw2⟩ : ∃ w2, w2 = w.drewN nq := ⟨_, rfl⟩
    have ho1 : Only (fun _ => False) w w2 := by rw [hw2]; exact (Only.refl _ w).drewN _
    rw [← hw2]
    have HNY : Hid (n = now) := Lib.hid (by rw [HNN.out]; unfold mx; split <;> omega)
    have HS2 : Hid (RA w2 r g n (.slice A M c) R) := Lib.hid (by rw [HNY.out]; exact HH.out.only ho1 (fun _ _ h => h))
    have HO2 : Hid (Only (fun q => q = r) w w2) := Lib.hid (ho1.mono (fun _ h => h.elim))
    clear hw2 ho1 hyn
    go_upto_region 3 with fail
  all_goals
    go_upto_region 6 with fail
    go_loopw [5, 6, 7] (fun v5 v6 v7 wr => ∃ i : Nat, v7 = .int .i64 (i : Int) ∧ i ≤ M ∧ Hid (Nr wr (fun q => w2.heap.size ≤ q) v5 ((dueR G n (R.take i)).map Prod.fst)) ∧ Hid (Rr wr (fun q => w2.heap.size ≤ q) v6 (leftR G n (R.take i))) ∧ Hid (Only (fun _ => False) w2 wr)) (fun _ _ v7 _ => M - (RowKit.intOf v7).toNat)
    case atStart => exact ⟨0, rfl, Nat.zero_le _, Lib.hid (Row.nil _ _ _ _), Lib.hid (Row.nil _ _ _ _), Lib.hid (Only.refl _ _)⟩
    case round =>
      obtain ⟨i, rfl, hi, HK, HL, HO⟩ := hrel
      have hra := HS2.out.only HO.out (fun _ _ h => h)
      have x0 := hra.c0
      have HRA := Lib.hid hra
      have hgo : i < M ∨ i = M := by omega
      rcases hgo with hlt | rfl
      · have hlt' : (i : Int) < (M : Int) := by omega
        have hio : i < R.length := by rw [← HM.out]; exact hlt
        have hge : R[i]? = some R[i] := List.getElem?_eq_getElem hio
        obtain ⟨p, hp⟩ : ∃ p, p = R[i] := ⟨_, rfl⟩
        rw [← hp] at hge
        obtain ⟨q, o, c2, hs, _⟩ := Row.some_ hra.row (by omega)
        injection hs with s1 s2 s3
        subst s1 s3
        have HDT := Lib.hid (due_take (G := G) (n := n) hge)
        have HL1 : Hid (((dueR G n (R.take i)).map Prod.fst).length ≤ 20000) := Lib.hid (by have := dueR_len G n (R.take i); rw [List.length_take] at this; rw [List.length_map]; omega)
        have HL2 : Hid ((leftR G n (R.take i)).length ≤ 20000) := Lib.hid (by have := leftR_len G n (R.take i); rw [List.length_take] at this; omega)
        have HPP : Hid (∀ w, _) := Lib.hid (fun w => HPA.out p (List.mem_of_getElem? hge) w)
        rw [← HGG.out] at HPP
        have KE : Hid (∀ V, Only (fun _ => False) w2 V → V.cell? ⟨r, 0, none⟩ = some (.slice (some ⟨q, o, none⟩) M c) ∧ V.cell? ⟨r, 1, none⟩ = some (.int .i64 g) ∧ V.cell? ⟨r, 2, none⟩ = some (.int .i64 n) ∧ At6 V q (o + i * 6) p) := Lib.hid (fun V hV => ⟨(HS2.out.only hV (fun _ _ h => h)).c0, (HS2.out.only hV (fun _ _ h => h)).c1, (HS2.out.only hV (fun _ _ h => h)).c2, Rr.at_ (HS2.out.only hV (fun _ _ h => h)).row HM.out hge⟩)
        obtain ⟨bz, hbz⟩ : ∃ bz, bz = decide (sl G p.2 * pw G ≤ n) := ⟨_, rfl⟩
        rw [HGG.out] at HPP
        rw [← hbz, ← HGG.out] at HPP
        have HBZ := Lib.hid hbz
        obtain ⟨⟨pa, pb, pc, pd, pe⟩, pt⟩ := p
        unfold At6 at KE
        simp only at KE HPP
        clear hge hp hio hra s2 hbz x0
        obtain ⟨x0, x1, x2, z0, z1, z2, z3, z4, z5⟩ := KE.out wr HO.out
        go_upto_region 8 with fail
        cases bz with
        | true =>
          go_quiet ((go_at_call 15; exact Calls.quiet_of_same (HPP.out _)))
          obtain ⟨w5, hw5⟩ : ∃ w5, w5 = wr.drewN nq := ⟨_, rfl⟩
          rw [← hw5]
          have HOd : Hid (Only (fun _ => False) wr w5) := by rw [hw5]; exact Lib.hid ((Only.refl _ wr).drewN _)
          clear hw5 x0 x1 x2 z0 z1 z2 z3 z4 z5
          obtain ⟨x0, x1, x2, z0, z1, z2, z3, z4, z5⟩ := KE.out w5 (HO.out.trans HOd.out)
          have HK5 := Lib.hid (Row.only HK.out HOd.out (fun _ _ h => h))
          have HL5 := Lib.hid (Row.only HL.out HOd.out (fun _ _ h => h))
          obtain ⟨v7, w7, hr7, k7, o7⟩ := Nr.app HK5.out (fun k hk => by have h1 := HO.out.size; have h2 := HOd.out.size; omega) HL1.out ⟨pa, pb, pc, pd, pe⟩ 81
          unfold boxR at hr7
          have HR7 := Lib.hid hr7
          have HK7 := Lib.hid k7
          have HL7 := Lib.hid (Row.only HL5.out o7 (fun q hq h => Row.apart HK5.out HL5.out (by decide) h hq))
          have HO7 : Hid (Only (fun _ => False) w2 w7) := Lib.hid ((HO.out.trans HOd.out).then_ o7 (fun q hq => .inr (Row.own HK5.out hq).1))
          clear hr7 k7 o7
          go_wp2_with ((with_reducible refine gate_builtin (b := .append) (xs := #[.tmp 46, .tmp 55]) rfl ?_); at_builtin; go_loud (refine Go.Lib.wpList_append_run_sl _ rfl (.tmp 46) (.tmp 55) 81 rfl _ _ rfl rfl HR7.out ?_))
          go_roundw
          case rel =>
            refine ⟨i + 1, by go_num, by omega, Lib.hid ?_, Lib.hid ?_, HO7⟩
            · rw [HDT.out.1, if_pos (of_decide_eq_true HBZ.out.symm), List.map_append]; exact HK7.out
            · rw [HDT.out.2, if_pos (of_decide_eq_true HBZ.out.symm), List.append_nil]; exact HL7.out
          case measure => simp [RowKit.intOf]; omega
        | false =>
          go_quiet ((go_at_call 15; exact Calls.quiet_of_same (HPP.out _)))
          obtain ⟨w5, hw5⟩ : ∃ w5, w5 = wr.drewN nq := ⟨_, rfl⟩
          rw [← hw5]
          have HOd : Hid (Only (fun _ => False) wr w5) := by rw [hw5]; exact Lib.hid ((Only.refl _ wr).drewN _)
          clear hw5 x0 x1 x2 z0 z1 z2 z3 z4 z5
          obtain ⟨x0, x1, x2, z0, z1, z2, z3, z4, z5⟩ := KE.out w5 (HO.out.trans HOd.out)
          have HK5 := Lib.hid (Row.only HK.out HOd.out (fun _ _ h => h))
          have HL5 := Lib.hid (Row.only HL.out HOd.out (fun _ _ h => h))
          obtain ⟨v7, w7, hr7, k7, o7⟩ := Rr.app HL5.out (fun k hk => by have h1 := HO.out.size; have h2 := HOd.out.size; omega) HL2.out ⟨⟨pa, pb, pc, pd, pe⟩, pt⟩ 41
          unfold boxT at hr7
          have HR7 := Lib.hid hr7
          have HL7 := Lib.hid k7
          have HK7 := Lib.hid (Row.only HK5.out o7 (fun q hq h => Row.apart HL5.out HK5.out (by decide) h hq))
          have HO7 : Hid (Only (fun _ => False) w2 w7) := Lib.hid ((HO.out.trans HOd.out).then_ o7 (fun q hq => .inr (Row.own HL5.out hq).1))
          clear hr7 k7 o7
          go_wp2_with ((with_reducible refine gate_builtin (b := .append) (xs := #[.tmp 57, .tmp 65]) rfl ?_); at_builtin; go_loud (refine Go.Lib.wpList_append_run_sl _ rfl (.tmp 57) (.tmp 65) 41 rfl _ _ rfl rfl HR7.out ?_))
          go_roundw
          case rel =>
            refine ⟨i + 1, by go_num, by omega, Lib.hid ?_, Lib.hid ?_, HO7⟩
            · rw [HDT.out.1, if_neg (of_decide_eq_false HBZ.out.symm), List.append_nil]; exact HK7.out
            · rw [HDT.out.2, if_neg (of_decide_eq_false HBZ.out.symm)]; exact HL7.out
          case measure => simp [RowKit.intOf]; omega
      · have hge : ¬ (i : Int) < i := by omega
        have hf0 := hra.frozen 0
        have HKF : Hid (Nr wr (fun q => w2.heap.size ≤ q) u5 ((dueR G n R).map Prod.fst)) := Lib.hid (by have := HK.out; rwa [HM.out, List.take_length] at this)
        have HLF : Hid (Rr wr (fun q => w2.heap.size ≤ q) u6 (leftR G n R)) := Lib.hid (by have := HL.out; rwa [HM.out, List.take_length] at this)
        obtain ⟨A7, c7, hv7, _⟩ := Row.form HLF.out
        obtain ⟨m7, hm7⟩ : ∃ m7, m7 = (leftR G n R).length := ⟨_, rfl⟩
        rw [← hm7] at hv7
        subst hv7
        clear hm7 hra
        go_wp2
        go_ret
        obtain ⟨hs7, ho7⟩ := HRA.out.setVal HLF.out
        have hsz := HO2.out.size
        rw [HGG.out] at hs7
        exact ⟨_, _, rfl, Row.to (Row.only HKF.out ho7 (fun q hq h => by have h1 := (Row.own HKF.out hq).1; have h2 := HS2.out.flt r (.inl rfl); omega)) (fun q hq => Nat.le_trans hsz (Row.own HKF.out hq).1), hs7, fun q hq => Nat.le_trans hsz (Row.own HLF.out hq).1, (HO2.out.trans (HO.out.mono (fun _ h => h.elim))).trans ho7⟩
end Go.Proofs.Ytmkcckkjkfmheaa.Al

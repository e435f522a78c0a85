/- Hedge: the walk of the third law. -/
import Derived.Test.YtpkmpbocgbmliaaHdX
set_option linter.unusedVariables false
set_option linter.unusedSimpArgs false
namespace Go.Proofs.Ytpkmpbocgbmliaa.Hd
open Go.RowKit Go.Proofs.Ytpkmpbocgbmliaa.Base Go.Proofs.Ytpkmpbocgbmliaa.Rws Go.Proofs.Ytpkmpbocgbmliaa.PHedgePlays Go.Proofs.YtpkmpbocgbmliaaW.PrintWords Go.Proofs.YtpkmpbocgbmliaaW.PrintMore
attribute [local go_sem] max2_mx min2_mn max_two min_two max_three min_three max_four min_four

abbrev rw_ (r : Res) : Array Value := #[.int .i64 r.code, .int .i64 r.t, .int .i64 r.sent, .int .i64 r.who]

theorem addr_add0 (ad : Addr) : ad.add 0 = ad := by cases ad; rfl

set_option maxHeartbeats 4000000 in
set_option maxRecDepth 100000 in
theorem sooner_walk (a0 a1 a2 : Int) (A : Option Addr) (n c : Nat) (w : World) (h : Ans w A n) (hc : n ≤ c) :
    Calls Try.prog 5 #[.int .i64 a0, .int .i64 a1, .int .i64 a2, .slice A n c] w fun e w' => e = .returned (.bool true) ∧ Below w.heap.size w w' := by
  obtain ⟨l, hl, hC⟩ := h
  have HA : Hid (∀ w, Calls Try.prog 7 #[] w fun e w' => e = .returned (.bool true) ∧ Below w.heap.size w w') := Lib.hid awake_p
  obtain ⟨d1, hd1⟩ : ∃ x, x = cl a2 := ⟨_, rfl⟩
  have HD1 : Hid (∀ w, Calls Try.prog 11 #[.int .i64 a2] w fun e w' => e = .returned (.int .i64 d1) ∧ w = w') := Lib.hid (fun w => by rw [hd1]; exact clampR_p a2 w)
  by_cases h0 : n = 0
  · have hd : ((n : Int) == 0) = true := by simp [h0]
    clear hl hC hc hd1 h0
    go_enter Try.func5, Try.ntmps5
    go_wp2_with (go_at_call 7; refine (HA.out _).mono ?_; rintro e w1 ⟨rfl, hb⟩; have HB := Lib.hid hb; clear hb)
    go_ret
    exact ⟨rfl, HB.out⟩
  have hd0 : ((n : Int) == 0) = false := by simp [h0]
  by_cases h20 : 20 < n
  · have hd : decide ((20 : Int) < (n : Int)) = true := decide_eq_true (by omega)
    clear hl hC hc hd1 h0 h20
    go_enter Try.func5, Try.ntmps5
    go_wp2_with (go_at_call 7; refine (HA.out _).mono ?_; rintro e w1 ⟨rfl, hb⟩; have HB := Lib.hid hb; clear hb)
    go_ret
    exact ⟨rfl, HB.out⟩
  have hd : decide ((20 : Int) < (n : Int)) = false := decide_eq_false (by omega)
  obtain ⟨ad, rfl, x0, x1⟩ := at_T34 hC 0 (Int.le_refl _) (by omega)
  have e0 : (0 : Int).toNat * 2 = 0 := rfl
  rw [e0, addr_add0] at x0 x1
  obtain ⟨x, hx⟩ : ∃ x, x = rd_T34 l 0 := ⟨_, rfl⟩
  rw [← hx] at x0 x1
  obtain ⟨cx, hcx⟩ : ∃ y, y = cl x.f0 := ⟨_, rfl⟩
  have HCX : Hid (∀ w, Calls Try.prog 11 #[.int .i64 x.f0] w fun e w' => e = .returned (.int .i64 cx) ∧ w = w') := Lib.hid (fun w => by rw [hcx]; exact clampR_p x.f0 w)
  have hn0 : (0 : Int) < (n : Int) := by omega
  have hn0' : 0 < n := by omega
  by_cases hx0 : x.f0 < 0
  · have g1 : decide (x.f0 < 0) = true := decide_eq_true hx0
    clear hl hC hc hd1 h0 h20 hx hcx hx0
    go_enter Try.func5, Try.ntmps5
    go_wp2_with (first | (go_at_call 11; with_reducible refine (HD1.out _).mono ?_; rintro e w' ⟨rfl, rfl⟩) | (go_at_call 11; with_reducible refine (HCX.out _).mono ?_; rintro e w' ⟨rfl, rfl⟩) | (go_at_call 7; refine (HA.out _).mono ?_; rintro e w1 ⟨rfl, hb⟩; have HB := Lib.hid hb; clear hb))
    go_ret
    exact ⟨rfl, HB.out⟩
  have g1 : decide (x.f0 < 0) = false := decide_eq_false hx0
  by_cases hx1 : ¬ x.f1 = 0
  · have g2 : (x.f1 != 0) = true := by simp [hx1]
    clear hl hC hc hd1 h0 h20 hx hcx hx0 hx1
    go_enter Try.func5, Try.ntmps5
    go_wp2_with (first | (go_at_call 11; with_reducible refine (HD1.out _).mono ?_; rintro e w' ⟨rfl, rfl⟩) | (go_at_call 11; with_reducible refine (HCX.out _).mono ?_; rintro e w' ⟨rfl, rfl⟩) | (go_at_call 7; refine (HA.out _).mono ?_; rintro e w1 ⟨rfl, hb⟩; have HB := Lib.hid hb; clear hb))
    go_ret
    exact ⟨rfl, HB.out⟩
  have hx1 : x.f1 = 0 := Classical.not_not.1 hx1
  have g2 : (x.f1 != 0) = false := by simp [hx1]
  by_cases hx2 : d1 ≤ cx
  · have g3 : decide (d1 ≤ cx) = true := decide_eq_true hx2
    clear hl hC hc hd1 h0 h20 hx hcx hx0 hx1 hx2
    go_enter Try.func5, Try.ntmps5
    go_wp2_with (first | (go_at_call 11; with_reducible refine (HD1.out _).mono ?_; rintro e w' ⟨rfl, rfl⟩) | (go_at_call 11; with_reducible refine (HCX.out _).mono ?_; rintro e w' ⟨rfl, rfl⟩) | (go_at_call 7; refine (HA.out _).mono ?_; rintro e w1 ⟨rfl, hb⟩; have HB := Lib.hid hb; clear hb))
    go_ret
    exact ⟨rfl, HB.out⟩
  have g3 : decide (d1 ≤ cx) = false := decide_eq_false hx2
  have HM : Hid (∀ w1, Below w.heap.size w w1 → Calls Try.prog 9 #[.slice (some ad) n c] w1 fun e w' => ∃ A' c', e = .returned (.slice A' n c') ∧ Kd.C k36 w' A' n (l.map m36) ∧ Below w1.heap.size w1 w') := Lib.hid (fun w1 hb => mine_p l (some ad) n c w1 hl.symm (Kd.C_below hC hb) hc (by omega))
  obtain ⟨r, hr⟩ : ∃ r, r = playM a0 a1 a2 (l.map m36) := ⟨_, rfl⟩
  have hq0 : rd_T36 (l.map m36) 0 = m36 x := by rw [rd_m, hx]
  have hlen : 0 < (l.map m36).length := by rw [List.length_map]; omega
  have h4 : cl (rd_T36 (l.map m36) 0).f0 < cl a2 := by rw [hq0, ← hd1]; show cl x.f0 < d1; rw [← hcx]; omega
  have hone : playM 1 a1 a2 (l.map m36) = ⟨0, cx, 1, 1⟩ := by
    have := play_one a1 a2 (l.map m36) hlen (by rw [hq0]; show 0 ≤ x.f0; omega) (by rw [hq0]; exact hx1) h4
    rw [hq0] at this
    rw [this, hcx]
    rfl
  have HF : Hid (r.t ≤ cx ∧ 0 < r.who) := Lib.hid (by
    have := play_sooner a0 a1 a2 (l.map m36) hlen (by rw [hq0]; show 0 ≤ x.f0; omega) (by rw [hq0]; exact hx1) h4
    rw [← hr, hq0] at this
    rw [hcx]
    exact this)
  have HP : Hid (∀ A' c' w1, Kd.C k36 w1 A' n (l.map m36) → Calls Try.prog 8 #[.int .i64 a0, .int .i64 a1, .int .i64 a2, .slice A' n c'] w1 fun e w' => e = .returned (.agg #[.int .i64 r.code, .int .i64 r.t, .int .i64 r.sent, .int .i64 r.who]) ∧ Below w1.heap.size w1 w') := Lib.hid (fun A' c' w1 h => played hl a0 a1 a2 A' c' w1 h r hr)
  have HU : Hid (∀ A' c' w1, Kd.C k36 w1 A' n (l.map m36) → Calls Try.prog 8 #[.int .i64 1, .int .i64 a1, .int .i64 a2, .slice A' n c'] w1 fun e w' => e = .returned (.agg #[.int .i64 0, .int .i64 cx, .int .i64 1, .int .i64 1]) ∧ Below w1.heap.size w1 w') := Lib.hid (fun A' c' w1 h => played hl 1 a1 a2 A' c' w1 h ⟨0, cx, 1, 1⟩ hone.symm)
  have HX : Hid (∀ w1, Below w.heap.size w w1 → w1.cell? ad = some (.int .i64 x.f0)) := Lib.hid (fun w1 hb => (hb.cell (World.block_lt_of_cell? w _ x0)).trans x0)
  have f1 : decide (r.t ≤ cx) = true := decide_eq_true HF.out.1
  have f2 : decide (0 < r.who) = true := decide_eq_true HF.out.2
  clear hl hC hc hd1 h0 h20 hr hone h4 hq0 hlen hx hcx hx0 hx1 hx2
  go_enter Try.func5, Try.ntmps5
  go_wp2_with (first | (go_at_call 11; with_reducible refine (HD1.out _).mono ?_; rintro e w' ⟨rfl, rfl⟩) | (go_at_call 11; with_reducible refine (HCX.out _).mono ?_; rintro e w' ⟨rfl, rfl⟩) | fail)
  refine (HM.out _ (Below.refl _ _)).mono ?_
  rintro e w1 ⟨A1, c1, rfl, hc1, hb1⟩
  have HC1 := Lib.hid hc1
  have HB1 := Lib.hid hb1
  clear hc1 hb1 x0 x1
  go_wp2_with fail
  refine (HP.out _ _ _ HC1.out).mono ?_
  rintro e w2 ⟨rfl, hb2⟩
  have HB2 := Lib.hid (HB1.out.trans (hb2.mono HB1.out.size))
  clear hb2 HC1 HB1
  go_wp2_with fail
  refine (HM.out _ HB2.out).mono ?_
  rintro e w3 ⟨A1, c1, rfl, hc1, hb1⟩
  have HC1 := Lib.hid hc1
  have HB3 := Lib.hid (HB2.out.trans (hb1.mono HB2.out.size))
  clear hc1 hb1
  go_wp2_with fail
  refine (HU.out _ _ _ HC1.out).mono ?_
  rintro e w4 ⟨rfl, hb2⟩
  have HB4 := Lib.hid (HB3.out.trans (hb2.mono HB3.out.size))
  clear hb2 HC1
  have HB5 := Lib.hid (alloc2 HB4.out HB4.out.size (.cells (rw_ r) 25) (.cells (rw_ ⟨0, cx, 1, 1⟩) 25))
  have y0 : ((w4.alloc (.cells (rw_ r) 25)).alloc (.cells (rw_ ⟨0, cx, 1, 1⟩) 25)).cell? ad = some (.int .i64 x.f0) := HX.out _ HB5.out
  have p0 : ((w4.alloc (.cells (rw_ r) 25)).alloc (.cells (rw_ ⟨0, cx, 1, 1⟩) 25)).cell? ⟨w4.heap.size, 0, none⟩ = some (.int .i64 r.code) := box2 w4 (rw_ r) (rw_ ⟨0, cx, 1, 1⟩) 25 25 0 rfl
  have p1 : ((w4.alloc (.cells (rw_ r) 25)).alloc (.cells (rw_ ⟨0, cx, 1, 1⟩) 25)).cell? ⟨w4.heap.size, 1, none⟩ = some (.int .i64 r.t) := box2 w4 (rw_ r) (rw_ ⟨0, cx, 1, 1⟩) 25 25 1 rfl
  have p3 : ((w4.alloc (.cells (rw_ r) 25)).alloc (.cells (rw_ ⟨0, cx, 1, 1⟩) 25)).cell? ⟨w4.heap.size, 3, none⟩ = some (.int .i64 r.who) := box2 w4 (rw_ r) (rw_ ⟨0, cx, 1, 1⟩) 25 25 3 rfl
  have q0 : ((w4.alloc (.cells (rw_ r) 25)).alloc (.cells (rw_ ⟨0, cx, 1, 1⟩) 25)).cell? ⟨(w4.alloc (.cells (rw_ r) 25)).heap.size, 0, none⟩ = some (.int .i64 0) := box_cell _ (rw_ ⟨0, cx, 1, 1⟩) 25 0 rfl
  have q1 : ((w4.alloc (.cells (rw_ r) 25)).alloc (.cells (rw_ ⟨0, cx, 1, 1⟩) 25)).cell? ⟨(w4.alloc (.cells (rw_ r) 25)).heap.size, 1, none⟩ = some (.int .i64 cx) := box_cell _ (rw_ ⟨0, cx, 1, 1⟩) 25 1 rfl
  have q2 : ((w4.alloc (.cells (rw_ r) 25)).alloc (.cells (rw_ ⟨0, cx, 1, 1⟩) 25)).cell? ⟨(w4.alloc (.cells (rw_ r) 25)).heap.size, 2, none⟩ = some (.int .i64 1) := box_cell _ (rw_ ⟨0, cx, 1, 1⟩) 25 2 rfl
  have q3 : ((w4.alloc (.cells (rw_ r) 25)).alloc (.cells (rw_ ⟨0, cx, 1, 1⟩) 25)).cell? ⟨(w4.alloc (.cells (rw_ r) 25)).heap.size, 3, none⟩ = some (.int .i64 1) := box_cell _ (rw_ ⟨0, cx, 1, 1⟩) 25 3 rfl
  go_wp2_with (first | (go_at_call 11; with_reducible refine (HCX.out _).mono ?_; rintro e w' ⟨rfl, rfl⟩) | (go_at_call 7; refine (HA.out _).mono ?_; rintro e w6 ⟨rfl, hb⟩; have HB6 := Lib.hid (HB5.out.trans (hb.mono HB5.out.size)); clear hb))
  go_ret
  exact ⟨rfl, HB6.out⟩

end Go.Proofs.Ytpkmpbocgbmliaa.Hd

/- Hedge: the walks of the third and the fourth law. -/
import Derived.Test.YtpkmpbocgbmliaaHdX
set_option linter.unusedVariables false
set_option linter.unusedSimpArgs false
namespace Go.Proofs.Ytpkmpbocgbmliaa.Hd
open Go.RowKit Go.Proofs.Ytpkmpbocgbmliaa.Base Go.Proofs.Ytpkmpbocgbmliaa.Rws Go.Proofs.Ytpkmpbocgbmliaa.PHedgePlays Go.Proofs.YtpkmpbocgbmliaaW.PrintWords Go.Proofs.YtpkmpbocgbmliaaW.PrintMore
attribute [local go_sem] max2_mx min2_mn max_two min_two max_three min_three max_four min_four

abbrev rv (r : Res) : Array Value := #[.int .i64 r.code, .int .i64 r.t, .int .i64 r.sent, .int .i64 r.who]

set_option maxHeartbeats 4000000 in
set_option maxRecDepth 100000 in
theorem later_walk (a0 a1 a2 a3 : Int) (A : Option Addr) (n c : Nat) (w : World) (h : Ans w A n) (hc : n ≤ c) :
    Calls Try.prog 6 #[.int .i64 a0, .int .i64 a1, .int .i64 a2, .int .i64 a3, .slice A n c] w fun e w' => e = .returned (.bool true) ∧ Below w.heap.size w w' := by
  obtain ⟨l, hl, hC⟩ := h
  have HA : Hid (∀ w, Calls Try.prog 7 #[] w fun e w' => e = .returned (.bool true) ∧ Below w.heap.size w w') := Lib.hid awake_p
  obtain ⟨d1, hd1⟩ : ∃ x, x = cl a2 := ⟨_, rfl⟩
  obtain ⟨d2, hd2⟩ : ∃ x, x = cl a3 := ⟨_, rfl⟩
  have HD1 : Hid (∀ w, Calls Try.prog 11 #[.int .i64 a2] w fun e w' => e = .returned (.int .i64 d1) ∧ w = w') := Lib.hid (fun w => by rw [hd1]; exact clampR_p a2 w)
  have HD2 : Hid (∀ w, Calls Try.prog 11 #[.int .i64 a3] w fun e w' => e = .returned (.int .i64 d2) ∧ w = w') := Lib.hid (fun w => by rw [hd2]; exact clampR_p a3 w)
  by_cases h20 : 20 < n
  · have hd : decide ((20 : Int) < (n : Int)) = true := decide_eq_true (by omega)
    clear hl hC hc hd1 hd2
    go_enter Try.func6, Try.ntmps6
    go_wp2_with (go_at_call 7; refine (HA.out _).mono ?_; rintro e w1 ⟨rfl, hb⟩; have HB := Lib.hid hb; clear hb)
    go_ret
    exact ⟨rfl, HB.out⟩
  have hd : decide ((20 : Int) < (n : Int)) = false := decide_eq_false (by omega)
  by_cases hdd : d2 < d1
  · have hd' : decide (d2 < d1) = true := decide_eq_true hdd
    clear hl hC hc hd1 hd2 hdd h20
    go_enter Try.func6, Try.ntmps6
    go_wp2_with (first | (go_at_call 11; with_reducible refine (HD1.out _).mono ?_; rintro e w' ⟨rfl, rfl⟩) | (go_at_call 11; with_reducible refine (HD2.out _).mono ?_; rintro e w' ⟨rfl, rfl⟩) | (go_at_call 7; refine (HA.out _).mono ?_; rintro e w1 ⟨rfl, hb⟩; have HB := Lib.hid hb; clear hb))
    go_ret
    exact ⟨rfl, HB.out⟩
  have hd' : decide (d2 < d1) = false := decide_eq_false hdd
  have HM : Hid (∀ w1, Below w.heap.size w w1 → Calls Try.prog 9 #[.slice A n c] w1 fun e w' => ∃ A' c', e = .returned (.slice A' n c') ∧ Kd.C k36 w' A' n (l.map m36) ∧ Below w1.heap.size w1 w') := Lib.hid (fun w1 hb => mine_p l A n c w1 hl.symm (Kd.C_below hC hb) hc (by omega))
  obtain ⟨r, hr⟩ : ∃ r, r = playM a0 a1 a2 (l.map m36) := ⟨_, rfl⟩
  obtain ⟨u, hu⟩ : ∃ r, r = playM a0 a1 a3 (l.map m36) := ⟨_, rfl⟩
  have HP : Hid (∀ A' c' w1, Kd.C k36 w1 A' n (l.map m36) → Calls Try.prog 8 #[.int .i64 a0, .int .i64 a1, .int .i64 a2, .slice A' n c'] w1 fun e w' => e = .returned (.agg #[.int .i64 r.code, .int .i64 r.t, .int .i64 r.sent, .int .i64 r.who]) ∧ Below w1.heap.size w1 w') := Lib.hid (fun A' c' w1 h => played hl a0 a1 a2 A' c' w1 h r hr)
  have HU : Hid (∀ A' c' w1, Kd.C k36 w1 A' n (l.map m36) → Calls Try.prog 8 #[.int .i64 a0, .int .i64 a1, .int .i64 a3, .slice A' n c'] w1 fun e w' => e = .returned (.agg #[.int .i64 u.code, .int .i64 u.t, .int .i64 u.sent, .int .i64 u.who]) ∧ Below w1.heap.size w1 w') := Lib.hid (fun A' c' w1 h => played hl a0 a1 a3 A' c' w1 h u hu)
  have HF : Hid ((r.who = 0 ∨ r = u) ∧ r.sent ≤ u.sent ∧ (u.who = 0 ∨ u = r ∨ r.t ≤ u.t)) := Lib.hid (by
    have := play_later a0 a1 a2 a3 (l.map m36) (by omega)
    rw [← hr, ← hu] at this
    exact this)
  clear hl hC hc hd1 hd2 hdd h20 hr hu
  go_enter Try.func6, Try.ntmps6
  go_wp2_with (first | (go_at_call 11; with_reducible refine (HD1.out _).mono ?_; rintro e w' ⟨rfl, rfl⟩) | (go_at_call 11; with_reducible refine (HD2.out _).mono ?_; rintro e w' ⟨rfl, rfl⟩) | fail)
  refine (HM.out _ (Below.refl _ _)).mono ?_
  rintro e w1 ⟨A1, c1, rfl, hc1, hb1⟩
  have HC1 := Lib.hid hc1
  have HB1 := Lib.hid hb1
  clear hc1 hb1
  go_wp2_with fail
  refine (HP.out _ _ _ HC1.out).mono ?_
  rintro e w2 ⟨rfl, hb2⟩
  have HB2 := Lib.hid (HB1.out.trans (hb2.mono HB1.out.size))
  clear hb2 HC1 HB1
  go_wp2_with fail
  refine (HM.out _ HB2.out).mono ?_
  rintro e w3 ⟨A1, c1, rfl, hc1, hb1⟩
  have HC1 := Lib.hid hc1
  have HB3 := Lib.hid (HB2.out.trans (hb1.mono HB2.out.size))
  clear hc1 hb1
  go_wp2_with fail
  refine (HU.out _ _ _ HC1.out).mono ?_
  rintro e w4 ⟨rfl, hb2⟩
  have HB4 := Lib.hid (HB3.out.trans (hb2.mono HB3.out.size))
  clear hb2 HC1
  go_upto_region 4 with fail
  have HB5 := Lib.hid (alloc2 HB4.out HB4.out.size (.cells #[.int .i64 r.code, .int .i64 r.t, .int .i64 r.sent, .int .i64 r.who] 25) (.cells #[.int .i64 u.code, .int .i64 u.t, .int .i64 u.sent, .int .i64 u.who] 25))
  have hk1 : ((w4.alloc (.cells #[.int .i64 r.code, .int .i64 r.t, .int .i64 r.sent, .int .i64 r.who] 25)).alloc (.cells #[.int .i64 u.code, .int .i64 u.t, .int .i64 u.sent, .int .i64 u.who] 25)).heap[w4.heap.size]? = some (.cells #[.int .i64 r.code, .int .i64 r.t, .int .i64 r.sent, .int .i64 r.who] 25 (0, 0)) := (heap_alloc_old (w4.alloc (.cells #[.int .i64 r.code, .int .i64 r.t, .int .i64 r.sent, .int .i64 r.who] 25)) _ (by show w4.heap.size < (w4.heap.push _).size; simp)).trans (heap_alloc_new w4 _)
  have hk2 : ((w4.alloc (.cells #[.int .i64 r.code, .int .i64 r.t, .int .i64 r.sent, .int .i64 r.who] 25)).alloc (.cells #[.int .i64 u.code, .int .i64 u.t, .int .i64 u.sent, .int .i64 u.who] 25)).heap[(w4.alloc (.cells #[.int .i64 r.code, .int .i64 r.t, .int .i64 r.sent, .int .i64 r.who] 25)).heap.size]? = some (.cells #[.int .i64 u.code, .int .i64 u.t, .int .i64 u.sent, .int .i64 u.who] 25 (0, 0)) := heap_alloc_new _ _
  have HK1 := Lib.hid hk1
  have HK2 := Lib.hid hk2
  clear hk1 hk2
  have hsz : (w4.alloc (.cells #[.int .i64 r.code, .int .i64 r.t, .int .i64 r.sent, .int .i64 r.who] 25)).heap.size = w4.heap.size + 1 := by show (w4.heap.push _).size = _; simp
  rw [hsz] at HK2
  try rw [hsz]
  clear hsz
  generalize (w4.alloc (.cells #[.int .i64 r.code, .int .i64 r.t, .int .i64 r.sent, .int .i64 r.who] 25)).alloc (.cells #[.int .i64 u.code, .int .i64 u.t, .int .i64 u.sent, .int .i64 u.who] 25) = w5 at *
  obtain ⟨q, hq⟩ : ∃ q, q = w4.heap.size := ⟨_, rfl⟩
  rw [← hq] at HK1 HK2 ⊢
  obtain ⟨q2, hq2⟩ : ∃ q2, q2 = q + 1 := ⟨_, rfl⟩
  rw [← hq2] at HK2 ⊢
  clear hq hq2
  have p0 : w5.cell? ⟨q, 0, none⟩ = some (.int .i64 r.code) := cell_at HK1.out 0 rfl
  have p1 : w5.cell? ⟨q, 1, none⟩ = some (.int .i64 r.t) := cell_at HK1.out 1 rfl
  have p2 : w5.cell? ⟨q, 2, none⟩ = some (.int .i64 r.sent) := cell_at HK1.out 2 rfl
  have p3 : w5.cell? ⟨q, 3, none⟩ = some (.int .i64 r.who) := cell_at HK1.out 3 rfl
  have q0 : w5.cell? ⟨q2, 0, none⟩ = some (.int .i64 u.code) := cell_at HK2.out 0 rfl
  have q1 : w5.cell? ⟨q2, 1, none⟩ = some (.int .i64 u.t) := cell_at HK2.out 1 rfl
  have q2' : w5.cell? ⟨q2, 2, none⟩ = some (.int .i64 u.sent) := cell_at HK2.out 2 rfl
  have q3 : w5.cell? ⟨q2, 3, none⟩ = some (.int .i64 u.who) := cell_at HK2.out 3 rfl
  have f2 : decide (r.sent ≤ u.sent) = true := decide_eq_true HF.out.2.1
  by_cases hru : r = u
  · obtain rfl := hru
    clear HF
    go_wp2_with (go_at_call 7; refine (HA.out _).mono ?_; rintro e w6 ⟨rfl, hb⟩; have HB6 := Lib.hid (HB5.out.trans (hb.mono HB5.out.size)); clear hb)
    all_goals
      go_ret
      exact ⟨rfl, HB6.out⟩
  · have h0 : r.who = 0 := HF.out.1.resolve_right hru
    have f1 : (r.who == 0) = true := by simp [h0]
    by_cases hu0 : u.who = 0
    · have f3 : (u.who == 0) = true := by simp [hu0]
      clear h0 hu0 hru HF
      go_wp2_with (go_at_call 7; refine (HA.out _).mono ?_; rintro e w6 ⟨rfl, hb⟩; have HB6 := Lib.hid (HB5.out.trans (hb.mono HB5.out.size)); clear hb)
      go_ret
      exact ⟨rfl, HB6.out⟩
    · have f3 : (u.who == 0) = false := by simp [hu0]
      have f4 : decide (r.t ≤ u.t) = true := decide_eq_true ((HF.out.2.2.resolve_left hu0).resolve_left (fun e => hru e.symm))
      clear h0 hu0 hru HF
      go_wp2_with (go_at_call 7; refine (HA.out _).mono ?_; rintro e w6 ⟨rfl, hb⟩; have HB6 := Lib.hid (HB5.out.trans (hb.mono HB5.out.size)); clear hb)
      all_goals
        go_ret
        exact ⟨rfl, HB6.out⟩

end Go.Proofs.Ytpkmpbocgbmliaa.Hd

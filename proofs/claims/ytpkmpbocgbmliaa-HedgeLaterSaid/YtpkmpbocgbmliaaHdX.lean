/- Hedge: the four laws' walks. -/
import Derived.Test.YtpkmpbocgbmliaaHdW
set_option linter.unusedVariables false
set_option linter.unusedSimpArgs false
namespace Go.Proofs.Ytpkmpbocgbmliaa.Hd
open Go.RowKit Go.Proofs.Ytpkmpbocgbmliaa.Base Go.Proofs.Ytpkmpbocgbmliaa.Rws Go.Proofs.Ytpkmpbocgbmliaa.PHedgePlays Go.Proofs.YtpkmpbocgbmliaaW.PrintWords Go.Proofs.YtpkmpbocgbmliaaW.PrintMore
attribute [local go_sem] max2_mx min2_mn max_two min_two max_three min_three max_four min_four

theorem box2 (w : World) (a b : Array Value) (s t : TypeId) (j : Nat) {v : Value} (h : a[j]? = some v) : ((w.alloc (.cells a s)).alloc (.cells b t)).cell? ⟨w.heap.size, j, none⟩ = some v :=
  cell_at ((heap_alloc_old (w.alloc (.cells a s)) (.cells b t) (by show w.heap.size < (w.heap.push _).size; simp)).trans (heap_alloc_new w (.cells a s))) j h

/-- mine, and the game of it. -/
theorem played {l : List S34} {n : Nat} (hl : l.length = n) (a0 a1 a2 : Int) (A' : Option Addr) (c' : Nat) (w1 : World) (h : Kd.C k36 w1 A' n (l.map m36)) (r : Res) (hr : r = playM a0 a1 a2 (l.map m36)) :
    Calls Try.prog 8 #[.int .i64 a0, .int .i64 a1, .int .i64 a2, .slice A' n c'] w1 fun e w' => e = .returned (.agg #[.int .i64 r.code, .int .i64 r.t, .int .i64 r.sent, .int .i64 r.who]) ∧ Below w1.heap.size w1 w' := by
  have e : n = (l.map m36).length := by rw [List.length_map, hl]
  subst hr
  rw [e] at h ⊢
  exact play_p a0 a1 a2 A' c' _ w1 h

theorem refd {l : List S34} {n : Nat} (hl : l.length = n) (a0 a1 a2 : Int) (A : Option Addr) (c : Nat) (w1 : World) (h : Kd.C k34 w1 A n l) (hc : n ≤ c) (r : Res) (hr : r = playM a0 a1 a2 (l.map m36)) :
    Calls Try.prog 10 #[.int .i64 a0, .int .i64 a1, .int .i64 a2, .slice A n c] w1 fun e w' => e = .returned (.agg #[.int .i64 r.code, .int .i64 r.t, .int .i64 r.sent, .int .i64 r.who]) ∧ Below w1.heap.size w1 w' := by
  subst hr
  exact ref_p a0 a1 a2 l A n c w1 hl.symm h hc

theorem alloc2 {B : Nat} {w w1 : World} (h : Below B w w1) (hB : B ≤ w1.heap.size) (o o' : Obj) : Below B w ((w1.alloc o).alloc o') :=
  (h.alloc hB o).alloc (by show B ≤ (w1.heap.push o).size; simp; omega) o'

set_option maxHeartbeats 4000000 in
theorem plays_walk (a0 a1 a2 : Int) (A : Option Addr) (n c : Nat) (w : World) (h : Ans w A n) (hc : n ≤ c) :
    Calls Try.prog 3 #[.int .i64 a0, .int .i64 a1, .int .i64 a2, .slice A n c] w fun e w' => e = .returned (.bool true) ∧ Below w.heap.size w w' := by
  obtain ⟨l, hl, hC⟩ := h
  have HA : Hid (∀ w, Calls Try.prog 7 #[] w fun e w' => e = .returned (.bool true) ∧ Below w.heap.size w w') := Lib.hid awake_p
  by_cases h20 : 20 < n
  · have hd : decide ((20 : Int) < (n : Int)) = true := decide_eq_true (by omega)
    clear hl hC hc
    go_enter Try.func3, Try.ntmps3
    go_wp2_with (go_at_call 7; refine (HA.out _).mono ?_; rintro e w1 ⟨rfl, hb⟩; have HB := Lib.hid hb; clear hb)
    go_ret
    exact ⟨rfl, HB.out⟩
  · have hd : decide ((20 : Int) < (n : Int)) = false := decide_eq_false (by omega)
    have HM := Lib.hid (mine_p l A n c w hl.symm hC hc (by omega))
    obtain ⟨r, hr⟩ : ∃ r, r = playM a0 a1 a2 (l.map m36) := ⟨_, rfl⟩
    have HP : Hid (∀ A' c' w1, Kd.C k36 w1 A' n (l.map m36) → Calls Try.prog 8 #[.int .i64 a0, .int .i64 a1, .int .i64 a2, .slice A' n c'] w1 fun e w' => e = .returned (.agg #[.int .i64 r.code, .int .i64 r.t, .int .i64 r.sent, .int .i64 r.who]) ∧ Below w1.heap.size w1 w') := Lib.hid (fun A' c' w1 h => played hl a0 a1 a2 A' c' w1 h r hr)
    have HR : Hid (∀ w1, Below w.heap.size w w1 → Calls Try.prog 10 #[.int .i64 a0, .int .i64 a1, .int .i64 a2, .slice A n c] w1 fun e w' => e = .returned (.agg #[.int .i64 r.code, .int .i64 r.t, .int .i64 r.sent, .int .i64 r.who]) ∧ Below w1.heap.size w1 w') := Lib.hid (fun w1 hb => refd hl a0 a1 a2 A c w1 (Kd.C_below hC hb) hc r hr)
    clear hl hC hc h20 hr
    go_enter Try.func3, Try.ntmps3
    go_wp2_with (first
      | (go_at_call 9; refine HM.out.mono ?_; rintro e w1 ⟨A1, c1, rfl, hc1, hb1⟩; have HC1 := Lib.hid hc1; have HB1 := Lib.hid hb1; clear hc1 hb1)
      | (go_at_call 8; refine (HP.out _ _ _ HC1.out).mono ?_; rintro e w2 ⟨rfl, hb2⟩; have HB2 := Lib.hid (HB1.out.trans (hb2.mono HB1.out.size)); clear hb2)
      | (go_at_call 10; refine (HR.out _ HB2.out).mono ?_; rintro e w3 ⟨rfl, hb3⟩; have HB3 := Lib.hid (HB2.out.trans (hb3.mono HB2.out.size)); clear hb3;
          have HB4 := Lib.hid (alloc2 HB3.out HB3.out.size (.cells #[.int .i64 r.code, .int .i64 r.t, .int .i64 r.sent, .int .i64 r.who] 25) (.cells #[.int .i64 r.code, .int .i64 r.t, .int .i64 r.sent, .int .i64 r.who] 29));
          have p0 := box2 w3 #[.int .i64 r.code, .int .i64 r.t, .int .i64 r.sent, .int .i64 r.who] #[.int .i64 r.code, .int .i64 r.t, .int .i64 r.sent, .int .i64 r.who] 25 29 0 rfl;
          have p1 := box2 w3 #[.int .i64 r.code, .int .i64 r.t, .int .i64 r.sent, .int .i64 r.who] #[.int .i64 r.code, .int .i64 r.t, .int .i64 r.sent, .int .i64 r.who] 25 29 1 rfl;
          have p2 := box2 w3 #[.int .i64 r.code, .int .i64 r.t, .int .i64 r.sent, .int .i64 r.who] #[.int .i64 r.code, .int .i64 r.t, .int .i64 r.sent, .int .i64 r.who] 25 29 2 rfl;
          have p3 := box2 w3 #[.int .i64 r.code, .int .i64 r.t, .int .i64 r.sent, .int .i64 r.who] #[.int .i64 r.code, .int .i64 r.t, .int .i64 r.sent, .int .i64 r.who] 25 29 3 rfl;
          have q0 := box_cell (w3.alloc (.cells #[.int .i64 r.code, .int .i64 r.t, .int .i64 r.sent, .int .i64 r.who] 25)) #[.int .i64 r.code, .int .i64 r.t, .int .i64 r.sent, .int .i64 r.who] 29 0 rfl;
          have q1 := box_cell (w3.alloc (.cells #[.int .i64 r.code, .int .i64 r.t, .int .i64 r.sent, .int .i64 r.who] 25)) #[.int .i64 r.code, .int .i64 r.t, .int .i64 r.sent, .int .i64 r.who] 29 1 rfl;
          have q2 := box_cell (w3.alloc (.cells #[.int .i64 r.code, .int .i64 r.t, .int .i64 r.sent, .int .i64 r.who] 25)) #[.int .i64 r.code, .int .i64 r.t, .int .i64 r.sent, .int .i64 r.who] 29 2 rfl;
          have q3 := box_cell (w3.alloc (.cells #[.int .i64 r.code, .int .i64 r.t, .int .i64 r.sent, .int .i64 r.who] 25)) #[.int .i64 r.code, .int .i64 r.t, .int .i64 r.sent, .int .i64 r.who] 29 3 rfl)
      | (go_at_call 7; refine (HA.out _).mono ?_; rintro e w5 ⟨rfl, hb5⟩; have HB5 := Lib.hid (HB4.out.trans (hb5.mono HB4.out.size)); clear hb5))
    go_ret
    exact ⟨rfl, HB5.out⟩


/-- What a walk asks of a result, of whichever of three kinds. -/
theorem bounds_facts (most delay dl : Int) (l : List S34) (r : Res) (hr : r = playM most delay dl (l.map m36)) :
    0 ≤ r.sent ∧ r.sent ≤ mostOf most ∧ 0 ≤ r.who ∧ r.who ≤ r.sent ∧ (0 < cl dl → 1 ≤ r.sent) ∧ (r.who = 0 → r.code = 4 ∧ r.t = cl dl) ∧
    (r.who ≠ 0 → r.who ≤ l.length ∧ r.t < cl dl ∧ 0 ≤ (rd_T34 l (r.who - 1)).f0 ∧ r.code = clean (rd_T34 l (r.who - 1)).f1 ∧ cl (rd_T34 l (r.who - 1)).f0 ≤ r.t) := by
  have hm := mostOf_bd most
  by_cases h : cl dl = 0
  · have e : r = ⟨4, 0, 0, 0⟩ := by rw [hr]; unfold playM; rw [if_pos h]
    subst e
    exact ⟨by decide, by show (0 : Int) ≤ _; omega, by decide, by decide, fun h2 => by omega, fun _ => ⟨rfl, h.symm⟩, fun h2 => absurd rfl h2⟩
  · have hb := play_bounds most delay dl (l.map m36) h
    rw [← hr] at hb
    refine ⟨by have := hb.s1; omega, hb.s5, hb.w0, hb.ws, fun _ => hb.s1, hb.z, fun h2 => ?_⟩
    have := hb.nz h2
    rw [show (kOf most delay dl (l.map m36)).l = l.map m36 from rfl, rd_m, List.length_map] at this
    exact this

set_option maxHeartbeats 8000000 in
set_option maxRecDepth 100000 in
theorem bounds_walk (a0 a1 a2 : Int) (A : Option Addr) (n c : Nat) (w : World) (h : Ans w A n) (hc : n ≤ c) :
    Calls Try.prog 4 #[.int .i64 a0, .int .i64 a1, .int .i64 a2, .slice A n c] w fun e w' => e = .returned (.bool true) ∧ Below w.heap.size w w' := by
  obtain ⟨l, hl, hC⟩ := h
  have HA : Hid (∀ w, Calls Try.prog 7 #[] w fun e w' => e = .returned (.bool true) ∧ Below w.heap.size w w') := Lib.hid awake_p
  by_cases h20 : 20 < n
  · have hd : decide ((20 : Int) < (n : Int)) = true := decide_eq_true (by omega)
    clear hl hC hc
    go_enter Try.func4, Try.ntmps4
    go_wp2_with (go_at_call 7; refine (HA.out _).mono ?_; rintro e w1 ⟨rfl, hb⟩; have HB := Lib.hid hb; clear hb)
    go_ret
    exact ⟨rfl, HB.out⟩
  · have hd : decide ((20 : Int) < (n : Int)) = false := decide_eq_false (by omega)
    have HM : Hid (∀ w1, Below w.heap.size w w1 → Calls Try.prog 9 #[.slice A n c] w1 fun e w' => ∃ A' c', e = .returned (.slice A' n c') ∧ Kd.C k36 w' A' n (l.map m36) ∧ Below w1.heap.size w1 w') := Lib.hid (fun w1 hb => mine_p l A n c w1 hl.symm (Kd.C_below hC hb) hc (by omega))
    obtain ⟨r, hr⟩ : ∃ r, r = playM a0 a1 a2 (l.map m36) := ⟨_, rfl⟩
    have HP : Hid (∀ A' c' w1, Kd.C k36 w1 A' n (l.map m36) → Calls Try.prog 8 #[.int .i64 a0, .int .i64 a1, .int .i64 a2, .slice A' n c'] w1 fun e w' => e = .returned (.agg #[.int .i64 r.code, .int .i64 r.t, .int .i64 r.sent, .int .i64 r.who]) ∧ Below w1.heap.size w1 w') := Lib.hid (fun A' c' w1 h => played hl a0 a1 a2 A' c' w1 h r hr)
    have HF := Lib.hid (bounds_facts a0 a1 a2 l r hr)
    obtain ⟨en, hen⟩ : ∃ en, en = cl a2 := ⟨_, rfl⟩
    obtain ⟨mo, hmo⟩ : ∃ mo, mo = mostOf a0 := ⟨_, rfl⟩
    have HE : Hid (∀ w, Calls Try.prog 11 #[.int .i64 a2] w fun e w' => e = .returned (.int .i64 en) ∧ w' = w) := Lib.hid (fun w => by rw [hen]; exact (clampR_p a2 w).mono fun _ _ h => ⟨h.1, h.2.symm⟩)
    have HO : Hid (∀ w, Calls Try.prog 12 #[.int .i64 a0] w fun e w' => e = .returned (.int .i64 mo) ∧ w' = w) := Lib.hid (fun w => by rw [hmo]; exact (mostR_p a0 w).mono fun _ _ h => ⟨h.1, h.2.symm⟩)
    rw [← hen, ← hmo] at HF
    have HCC : Hid (Kd.C k34 w A n l) := hC
    have H20 : Hid (n ≤ 20) := Lib.hid (by omega)
    have HL := Lib.hid hl
    clear hl hC hc h20 hr hen hmo
    have f1 : decide (r.sent < 0) = false := decide_eq_false (by have := HF.out.1; omega)
    have f2 : decide (mo < r.sent) = false := decide_eq_false (by have := HF.out.2.1; omega)
    have f3 : decide (r.who < 0) = false := decide_eq_false (by have := HF.out.2.2.1; omega)
    have f4 : decide (r.sent < r.who) = false := decide_eq_false (by have := HF.out.2.2.2.1; omega)
    go_enter Try.func4, Try.ntmps4
    go_upto_region 5 with (first
      | (go_at_call 9; refine (HM.out _ (Below.refl _ _)).mono ?_; rintro e w1 ⟨A1, c1, rfl, hc1, hb1⟩; have HC1 := Lib.hid hc1; have HB1 := Lib.hid hb1; clear hc1 hb1)
      | (go_at_call 8; refine (HP.out _ _ _ HC1.out).mono ?_; rintro e w2 ⟨rfl, hb2⟩; have HB2 := Lib.hid (HB1.out.trans (hb2.mono HB1.out.size)); clear hb2)
      | (go_at_call 11; refine (HE.out _).mono ?_; rintro e w' ⟨rfl, rfl⟩))
    obtain ⟨w3, hw3⟩ : ∃ w3, w3 = w2.alloc (.cells #[.int .i64 r.code, .int .i64 r.t, .int .i64 r.sent, .int .i64 r.who] 25) := ⟨_, rfl⟩
    obtain ⟨q, hq⟩ : ∃ q, q = w2.heap.size := ⟨_, rfl⟩
    have HB3 : Hid (Below w.heap.size w w3) := by rw [hw3]; exact Lib.hid (HB2.out.alloc HB2.out.size _)
    have HK3 : Hid (w3.heap[q]? = some (.cells #[.int .i64 r.code, .int .i64 r.t, .int .i64 r.sent, .int .i64 r.who] 25 (0, 0))) := by rw [hw3, hq]; exact Lib.hid (heap_alloc_new _ _)
    rw [← hw3, ← hq]
    clear hw3 hq
    have p0 : w3.cell? ⟨q, 0, none⟩ = some (.int .i64 r.code) := cell_at HK3.out 0 rfl
    have p1 : w3.cell? ⟨q, 1, none⟩ = some (.int .i64 r.t) := cell_at HK3.out 1 rfl
    have p2 : w3.cell? ⟨q, 2, none⟩ = some (.int .i64 r.sent) := cell_at HK3.out 2 rfl
    have p3 : w3.cell? ⟨q, 3, none⟩ = some (.int .i64 r.who) := cell_at HK3.out 3 rfl
    go_cut [53] (fun s wx => s = .bool false ∧ ∃ m, wx = w3.drewN m)
    case first =>
      by_cases he : 0 < en
      · have f5 : decide (0 < en) = true := decide_eq_true he
        have f6 : decide (r.sent < 1) = false := decide_eq_false (by have := HF.out.2.2.2.2.1 he; omega)
        clear he
        go_quiet ((go_at_call 12; exact Calls.quiet_of_same (HO.out _)))
        go_wp2_with fail
        go_meet
        exact ⟨rfl, _, rfl⟩
      · have f5 : decide (0 < en) = false := decide_eq_false he
        clear he
        go_quiet ((go_at_call 12; exact Calls.quiet_of_same (HO.out _)))
        go_wp2_with fail
        go_meet
        exact ⟨rfl, _, rfl⟩
    case rest =>
      obtain ⟨rfl, m, hwc⟩ := hcut
      have HB4 : Hid (Below w.heap.size w wc) := by rw [hwc]; exact Lib.hid (pw_below_drewN HB3.out m)
      have HK4 : Hid (wc.heap[q]? = some (.cells #[.int .i64 r.code, .int .i64 r.t, .int .i64 r.sent, .int .i64 r.who] 25 (0, 0))) := by rw [hwc]; exact HK3
      obtain ⟨w4, hw4⟩ : ∃ w4, w4 = wc := ⟨_, rfl⟩
      rw [← hw4] at HB4 HK4 ⊢
      clear hw4 hwc p0 p1 p2 p3 f1 f2 f3 f4
      have p0 : w4.cell? ⟨q, 0, none⟩ = some (.int .i64 r.code) := cell_at HK4.out 0 rfl
      have p1 : w4.cell? ⟨q, 1, none⟩ = some (.int .i64 r.t) := cell_at HK4.out 1 rfl
      have p3 : w4.cell? ⟨q, 3, none⟩ = some (.int .i64 r.who) := cell_at HK4.out 3 rfl
      by_cases hz : r.who = 0
      · have g1 : (r.who == 0) = true := by simp [hz]
        have g2 : (r.code == 4) = true := by simp [(HF.out.2.2.2.2.2.1 hz).1]
        have g3 : (r.t == en) = true := by simp [(HF.out.2.2.2.2.2.1 hz).2]
        clear hz
        go_wp2_with (go_at_call 7; refine (HA.out _).mono ?_; rintro e w5 ⟨rfl, hb⟩; have HB5 := Lib.hid (HB4.out.trans (hb.mono HB4.out.size)); clear hb)
        go_ret
        exact ⟨rfl, HB5.out⟩
      · have g1 : (r.who == 0) = false := by simp [hz]
        obtain ⟨j, hj⟩ : ∃ j, j = r.who - 1 := ⟨_, rfl⟩
        have F := HF.out.2.2.2.2.2.2 hz
        rw [← hj, HL.out] at F
        obtain ⟨F1, F2, F3, F4, F5⟩ := F
        have hw0 := HF.out.2.2.1
        have hn20 := H20.out
        have j0 : 0 ≤ j := by omega
        have jn : j < (n : Int) := by omega
        have hwr : wrap64 (r.who - 1) = j := by unfold wrap64; omega
        have hwr2 : IntKind.i64.wrap (r.who - 1) = j := by rw [IntKind.wrap_i64]; omega
        obtain ⟨ad, rfl, x0, x1⟩ := at_T34 HCC.out j j0 jn
        have HX : Hid (∀ w', Below w.heap.size w w' → w'.cell? (ad.add (j.toNat * 2)) = some (.int .i64 (rd_T34 l j).f0) ∧ w'.cell? ⟨(ad.add (j.toNat * 2)).block, (ad.add (j.toNat * 2)).off + 1, none⟩ = some (.int .i64 (rd_T34 l j).f1)) := Lib.hid (fun w' hb => ⟨(hb.cell (World.block_lt_of_cell? w _ x0)).trans x0, (hb.cell (World.block_lt_of_cell? w _ x1)).trans x1⟩)
        clear x0 x1 HCC
        generalize rd_T34 l j = x at *
        have g2 : decide (r.who ≤ (n : Int)) = true := decide_eq_true F1
        have g3 : decide (r.t < en) = true := decide_eq_true F2
        have g4 : decide (0 ≤ x.f0) = true := decide_eq_true F3
        obtain ⟨cx, hcx⟩ : ∃ cx, cx = cl x.f0 := ⟨_, rfl⟩
        have g5 : decide (cx ≤ r.t) = true := decide_eq_true (by rw [hcx]; exact F5)
        have HCX : Hid (∀ w, Calls Try.prog 11 #[.int .i64 x.f0] w fun e w' => e = .returned (.int .i64 cx) ∧ w = w') := Lib.hid (fun w => by rw [hcx]; exact clampR_p _ w)
        obtain ⟨cd, hcd⟩ : ∃ cd, cd = r.code := ⟨_, rfl⟩
        rw [← hcd] at HK4 p0
        have HCD : Hid (∀ w, Calls Try.prog 13 #[.int .i64 x.f1] w fun e w' => e = .returned (.int .i64 cd) ∧ w = w') := Lib.hid (fun w => by rw [hcd, F4]; exact cleanR_p _ w)
        have HS : Hid (∀ w', Below w.heap.size w w' → w'.heap[q]? = some (.cells #[.int .i64 cd, .int .i64 r.t, .int .i64 r.sent, .int .i64 r.who] 25 (0, 0)) → w'.cell? ⟨q, 0, none⟩ = some (.int .i64 cd) ∧ w'.cell? ⟨q, 1, none⟩ = some (.int .i64 r.t) ∧ w'.cell? ⟨q, 3, none⟩ = some (.int .i64 r.who) ∧ w'.cell? (ad.add (j.toNat * 2)) = some (.int .i64 x.f0) ∧ w'.cell? ⟨(ad.add (j.toNat * 2)).block, (ad.add (j.toNat * 2)).off + 1, none⟩ = some (.int .i64 x.f1)) := Lib.hid (fun w' hb hk => ⟨cell_at hk 0 rfl, cell_at hk 1 rfl, cell_at hk 3 rfl, (HX.out w' hb).1, (HX.out w' hb).2⟩)
        clear hj F1 F2 F3 F4 F5 hcx hcd hz hw0 hn20
        go_wp2_with fail
        go_region_held3 (fun w' => w'.cell? ⟨q, 0, none⟩ = some (.int .i64 cd) ∧ w'.cell? ⟨q, 1, none⟩ = some (.int .i64 r.t) ∧ w'.cell? ⟨q, 3, none⟩ = some (.int .i64 r.who) ∧ w'.cell? (ad.add (j.toNat * 2)) = some (.int .i64 x.f0) ∧ w'.cell? ⟨(ad.add (j.toNat * 2)).block, (ad.add (j.toNat * 2)).off + 1, none⟩ = some (.int .i64 x.f1)) (first | exact HS.out _ HB4.out HK4.out | exact HS.out _ HB4.out.drew HK4.out | exact HS.out _ HB5.out HK5.out) (first
          | (go_at_call 13; refine (HCD.out _).mono ?_; rintro e w' ⟨rfl, rfl⟩)
          | (go_at_call 11; refine (HCX.out _).mono ?_; rintro e w' ⟨rfl, rfl⟩)
          | (go_at_call 7; refine (HA.out _).mono ?_; rintro e w5 ⟨rfl, hb⟩; have HB5 := Lib.hid (HB4.out.drew.trans (hb.mono HB4.out.size)); have HK5 := Lib.hid ((hb.block q (blk_lt (w := w4) HK4.out)).trans HK4.out); clear hb))
        go_wp2
        go_ret
        exact ⟨rfl, HB5.out⟩

end Go.Proofs.Ytpkmpbocgbmliaa.Hd

/- TurnsFair returns true, of any weights. -/
import Derived.Test.YtpophcmdhpechaaTurC
set_option linter.unusedVariables false
set_option linter.unusedSimpArgs false
set_option maxRecDepth 100000
namespace Go.Proofs.Ytpophcmdhpechaa.Tur
open Go.RowKit Go.Proofs.Ytpophcmdhpechaa.Base Go.Proofs.YtpophcmdhpechaaW.PrintWords Go.Proofs.YtpophcmdhpechaaW.PrintMore
attribute [local go_sem] max2_mx min2_mn max_two min_two max_three min_three max_four min_four

theorem fair_no (ws : List Int) (A : Option Addr) (c : Nat) (n : Int) (w : World) (hr : Kd.C (Kd.int .i64) w A ws.length ws) (hno : ¬ Ok ws) :
    Calls Try.prog 7 #[.slice A ws.length c, .int .i64 n] w fun e w' => e = .returned (.bool true) ∧ Below w.heap.size w w' := by
  have HR := Lib.hid hr
  have HN := Lib.hid hno
  clear hr hno
  go_enter Try.func7, Try.ntmps7
  go_wp2_with (first | (go_at_call 19; refine (right_no2 ws _ _ _ HR.out HN.out).mono ?_; rintro e w' ⟨rfl, rfl⟩) | (go_at_call 17; refine (awake_p _).mono ?_; rintro e w5 ⟨rfl, ho5⟩; have HO5 := Lib.hid ho5; clear ho5))
  go_ret
  exact ⟨rfl, HO5.out⟩

theorem fair_big (ws : List Int) (A : Option Addr) (c : Nat) (n : Int) (w : World) (hr : Kd.C (Kd.int .i64) w A ws.length ws) (hok : Ok ws) (hb : 100 < n) :
    Calls Try.prog 7 #[.slice A ws.length c, .int .i64 n] w fun e w' => e = .returned (.bool true) ∧ Below w.heap.size w w' := by
  have HR := Lib.hid hr
  have HN := Lib.hid hok
  clear hr hok
  go_enter Try.func7, Try.ntmps7
  go_wp2_with (first | (go_at_call 19; refine (right_ok ws _ _ _ HR.out HN.out).mono ?_; rintro e w' ⟨rfl, rfl⟩) | (go_at_call 17; refine (awake_p _).mono ?_; rintro e w5 ⟨rfl, ho5⟩; have HO5 := Lib.hid ho5; clear ho5))
  go_ret
  exact ⟨rfl, HO5.out⟩

theorem part_bounds {ws hv : List Int} (hn : ws.length ≤ 64) (h : Near ws hv) (k : Nat) (hk : k ≤ ws.length) : -6400000000 ≤ sumK (fun i => rd hv i) k ∧ sumK (fun i => rd hv i) k ≤ 6400000000 := by
  have h1 := sumK_le 100000000 (f := fun i => rd hv i) (k := k) (fun i hi => (h i (by omega)).2)
  have h2 := sumK_nonneg (f := fun i => rd hv i - (-100000000)) (k := k) (fun i hi => by have := (h i (by omega)).1; show 0 ≤ rd hv i - (-100000000); omega)
  have h3 := sumK_le 100000000 (f := fun i => -(rd hv i)) (k := k) (fun i hi => by have := (h i (by omega)).1; show -(rd hv i) ≤ 100000000; omega)
  have h4 : sumK (fun i => -(rd hv i)) k = - sumK (fun i => rd hv i) k := by
    have := sumK_mul (-1) (fun i => rd hv i) k
    have e : sumK (fun i => -(rd hv i)) k = sumK (fun i => -1 * rd hv i) k := sumK_congr (fun i _ => by omega)
    rw [e, this]; omega
  rw [h4] at h3
  omega

set_option maxHeartbeats 4000000 in
theorem fair_ok (ws : List Int) (ad : Addr) (c : Nat) (n : Int) (w : World) (hr : Kd.C (Kd.int .i64) w (some ad) ws.length ws) (hok : Ok ws) (hsm : n ≤ 100) :
    Calls Try.prog 7 #[.slice (some ad) ws.length c, .int .i64 n] w fun e w' => e = .returned (.bool true) ∧ Below w.heap.size w w' := by
  have HR := Lib.hid hr
  have HOK := Lib.hid hok
  have h64 := hok.n
  have hpos := hok.pos
  have hcp := hok.c
  have hcl := hok.cyc_le
  have h3 : ¬ 100 < n := by omega
  have HN : Hid (∀ k : Nat, (k : Int) ≤ 300 → Near ws (hvS ws k)) := Lib.hid (fun k hk j hj => (seq_behind HOK.out k).near HOK.out (by rw [seq_len]; omega) j hj)
  clear hr hok
  go_enter Try.func7, Try.ntmps7
  go_wp2_with (first | (go_at_call 18; refine (new_ok ws ad _ _ HR.out HOK.out).mono ?_; rintro e w1 ⟨p, a, b, ca, rfl, hT, hB, hp, ha, hb⟩; have HT := Lib.hid hT; have HB := Lib.hid hB; clear hT hB) | (go_at_call 19; refine (right_ok ws _ _ _ HR.out HOK.out).mono ?_; rintro e w' ⟨rfl, rfl⟩))
  go_loopw [7, 8, 9, 10, 11] (fun v7 vm v9 v10 v11 wr => ∃ (k : Nat) (A2 : Option Addr) (c2 : Nat), v7 = .slice A2 k c2 ∧ vm = .int .i64 ((k : Int) + 1) ∧ k ≤ 100 ∧ Hid (TK ws (hvS ws k) p a b ca wr) ∧ Hid (Kd.R (Kd.int .i64) 3 wr w.heap.size (Away p a b) (.slice A2 k c2) (seq ws k)) ∧ Hid (Below w.heap.size w wr)) (fun _ vm _ _ _ _ => (101 - intOf vm).toNat)
  case atStart => exact ⟨0, none, 0, rfl, rfl, by omega, HT, Lib.hid (Kd.R_nil _ _ _ _ _), HB⟩
  case round =>
    obtain ⟨k, A2, c2, rfl, rfl, hk, HTr, HRl, HBr⟩ := hrel
    have hgo : (k : Int) + 1 ≤ n ∨ ¬ (k : Int) + 1 ≤ n := by omega
    have hlw := HBr.out.size
    rcases hgo with hlt | hlt
    · have HL := Lib.hid (seq_len ws k)
      have HL1 := Lib.hid (seq_len ws (k + 1))
      have HNk := Lib.hid (HN.out k (by omega))
      have HNk1 := Lib.hid (HN.out (k + 1) (by omega))
      have HX : Hid ((nxt ws (hvS ws k) < ws.length ∧ 0 < rd ws (nxt ws (hvS ws k) : Nat))) := Lib.hid ⟨nxt_lt ws _ hpos, ((seq_behind HOK.out k).top HOK.out).2⟩
      have HSQ : Hid (seq ws (k + 1) = seq ws k ++ [((nxt ws (hvS ws k) : Nat) : Int)]) := Lib.hid rfl
      have HVS : Hid (hvS ws (k + 1) = aft ws (hvS ws k)) := Lib.hid rfl
      have HBE := Lib.hid (seq_behind HOK.out (k + 1))
      have HNX : Hid (∀ w0, TK ws (hvS ws k) p a b ca w0 → Calls Try.prog 20 #[.pointer (some ⟨p, 0, none⟩)] w0 fun e w' => e = .returned (.int .i64 (nxt ws (hvS ws k) : Nat)) ∧ TK ws (hvS ws (k + 1)) p a b ca w' ∧ Only (fun k => k = b) w0 w') := Lib.hid (fun w0 h0 => next_p ws (hvS ws k) p a b ca w0 h0 HOK.out HNk.out)
      generalize nxt ws (hvS ws k) = x at *
      have hx1 : (x : Int) < ws.length := by have := HX.out.1; omega
      have hx0 : ¬ (x : Int) < 0 := by omega
      have hxz : (rd ws (x : Int) == 0) = false := by have := HX.out.2; simp; omega
      have HQ : Hid (wrap64 (cnt (seq ws (k + 1)) x * cyc ws) = cnt (seq ws (k + 1)) x * cyc ws ∧ wrap64 (((k : Int) + 1) * rd ws (x : Int)) = ((k : Int) + 1) * rd ws (x : Int) ∧ wrap64 (((k : Int) + 1) * rd ws (x : Int) + cyc ws) = ((k : Int) + 1) * rd ws (x : Int) + cyc ws ∧ cnt (seq ws (k + 1)) x * cyc ws < ((k : Int) + 1) * rd ws (x : Int) + cyc ws ∧ 0 - cyc ws < rd (hvS ws (k + 1)) (x : Int) ∧ wrap64 (0 - cyc ws) = 0 - cyc ws) := Lib.hid (by
        have h1 := HBE.out.has x HX.out.1
        have h2 := HBE.out.low x HX.out.1
        have h3 := cnt_le (seq ws (k + 1)) x
        rw [HL1.out] at h1 h3
        have h4 := prod_le (a := cnt (seq ws (k + 1)) x) (x := 101) (b := cyc ws) (y := 64000) h3.1 (by omega) (by omega) hcl
        have h5 := prod_le (a := (k : Int) + 1) (x := 101) (b := rd ws (x : Int)) (y := 1000) (by omega) (by omega) (HOK.out.b x HX.out.1).1 (HOK.out.b x HX.out.1).2
        have e : ((k + 1 : Nat) : Int) = (k : Int) + 1 := by omega
        rw [e] at h1
        rw [Int.mul_comm (cyc ws)] at h1
        generalize cnt (seq ws (k + 1)) x * cyc ws = y at *
        generalize ((k : Int) + 1) * rd ws (x : Int) = z at *
        unfold wrap64
        omega)
      go_wp2_with (first | (go_at_call 20; refine (HNX.out _ HTr.out).mono ?_; rintro e w2 ⟨rfl, ht2, ho2⟩; have HT2 := Lib.hid ht2; have HR2 := Lib.hid (row_only HRl.out ho2); have hB2 := (ho2.below HBr.out HBr.out.size (fun _ h => by omega)); have HB2 := Lib.hid hB2; obtain ⟨ad', e', hx⟩ := Kd.at_int (Kd.C_below HR.out hB2) (x : Int) (by omega) hx1; cases e'; rw [Int.toNat_natCast] at hx; clear ht2 ho2 hB2) | ((with_reducible refine gate_builtin (b := .append) (xs := #[.tmp 49, .tmp 51]) rfl ?_); at_builtin; refine Kd.R_append (Kd.int .i64) (w0 := w) w.heap.size rfl (.tmp 49) (.tmp 51) 34 3 (.int .i64 0) 8 rfl Try.underlying34 info3 rfl (by decide) (by omega) (.slice A2 k c2) (seq ws k) (x : Int) [.int .i64 (x : Int)] (Away p a b) (fun _ => False) rfl rfl ?aP (fun _ hk => hk.elim) ?aF ?aO ?aB ?aS ?aL ?_; (case aP => exact rfl); (case aF => exact away_new HT2.out (HT2.out.a_lt hpos)); (case aO => exact HR2.out); (case aB => exact HB2.out); (case aS => exact HB2.out.size); (case aL => rw [HL.out]; omega); intro v4 w4 ho4 hb4 hg4 hat4; obtain ⟨A4, c4, e4⟩ := Kd.R_slice ho4; rw [← HSQ.out] at ho4; rw [List.length_append, HL.out, List.length_singleton] at e4; subst e4; have HR4 := Lib.hid ho4; have HB4 := Lib.hid hb4; have HT4 := Lib.hid (HT2.out.grown HR2.out hg4); clear ho4 hb4 hg4 hat4 hx))
      go_loopw [10, 11] (fun vs vj wr => ∃ j : Nat, vs = .int .i64 (sumK (fun i => rd (hvS ws (k + 1)) i) j) ∧ vj = .int .i64 (j : Int) ∧ j ≤ ws.length ∧ Hid (TK ws (hvS ws (k + 1)) p a b ca wr) ∧ Hid (Kd.R (Kd.int .i64) 3 wr w.heap.size (Away p a b) (.slice A4 (k + 1) c4) (seq ws (k + 1))) ∧ Hid (Below w.heap.size w wr)) (fun _ vj _ => ws.length - (intOf vj).toNat)
      case atStart => exact ⟨0, rfl, rfl, by omega, HT4, HR4, HB4⟩
      case round =>
        obtain ⟨j, rfl, rfl, hj, HTj, HRj, HBj⟩ := hrel
        have hgo : j < ws.length ∨ j = ws.length := by omega
        rcases hgo with hjl | rfl
        · have hjl' : (j : Int) < ws.length := by omega
          have HJ := Lib.hid hjl
          have HS : Hid (sumK (fun i => rd (hvS ws (k + 1)) i) (j + 1) = sumK (fun i => rd (hvS ws (k + 1)) i) j + rd (hvS ws (k + 1)) (j : Int)) := Lib.hid rfl
          have hw : wrap64 (sumK (fun i => rd (hvS ws (k + 1)) i) j + rd (hvS ws (k + 1)) (j : Int)) = sumK (fun i => rd (hvS ws (k + 1)) i) (j + 1) := by
            have := part_bounds h64 HNk1.out (j + 1) (by omega)
            rw [HS.out] at this ⊢; unfold wrap64; omega
          go_wp2_with (first | (go_at_call 22; refine (have_p ws (hvS ws (k + 1)) p a b ca _ HTj.out j HJ.out).mono ?_; rintro e w' ⟨rfl, rfl⟩))
          go_roundw
          case rel => exact ⟨j + 1, by rw [hw], by go_num, by omega, HTj, HRj, HBj⟩
          case measure => simp [intOf]; omega
        · have HZ : Hid (sumK (fun i => rd (hvS ws (k + 1)) i) ws.length = 0) := Lib.hid HBE.out.sum
          rw [HZ.out]
          obtain ⟨q1, q2, q3, q4, q5, q6⟩ := HQ.out
          have q4' : ¬ ((k : Int) + 1) * rd ws (x : Int) + cyc ws ≤ cnt (seq ws (k + 1)) x * cyc ws := by omega
          have q5' : ¬ rd (hvS ws (k + 1)) (x : Int) ≤ 0 - cyc ws := by omega
          have q7 := (wrap_i64 (cnt (seq ws (k + 1)) x * cyc ws)).trans q1
          have q8 := (wrap_i64 (((k : Int) + 1) * rd ws (x : Int))).trans q2
          have q9 := (wrap_i64 (((k : Int) + 1) * rd ws (x : Int) + cyc ws)).trans q3
          have q10 : wrap64 (-cyc ws) = -cyc ws := by rw [Int.zero_sub] at q6; exact q6
          have q11 := (wrap_i64 (-cyc ws)).trans q10
          have q12 := (wrap_i64 (0 - cyc ws)).trans q6
          have q13 : ¬ rd (hvS ws (k + 1)) (x : Int) ≤ -cyc ws := by omega
          have HRq : Hid (Kd.C (Kd.int .i64) wr (some ad) ws.length ws) := Lib.hid (Kd.C_below HR.out HBj.out)
          have HClq : Hid (Kd.C (Kd.int .i64) wr A4 (k + 1) (seq ws (k + 1))) := Lib.hid (by have := (Kd.R_reads' HRj.out).2.2; rw [HL1.out] at this; exact this)
          obtain ⟨ad', e', hx⟩ := Kd.at_int HRq.out (x : Int) (by omega) hx1
          cases e'
          rw [Int.toNat_natCast] at hx
          clear q4 q5
          have HC1 : Hid (∀ n, Calls Try.prog 26 #[.slice A4 (k + 1) c4, .int .i64 (x : Int)] (wr.drewN n) fun e w' => e = .returned (.int .i64 (cnt (seq ws (k + 1)) x)) ∧ w' = wr.drewN n) := Lib.hid (fun n => by
            have h1 := count_r (seq ws (k + 1)) A4 c4 (wr.drewN n) x (by rw [HL1.out]; exact Kd.C_drewN HClq.out n) (by rw [HL1.out]; omega)
            rw [HL1.out] at h1
            exact h1.mono fun _ _ ⟨h1, h2⟩ => ⟨h1, h2.symm⟩)
          have HC2 : Hid (∀ n, Calls Try.prog 22 #[.pointer (some ⟨p, 0, none⟩), .int .i64 (x : Int)] (wr.drewN n) fun e w' => e = .returned (.int .i64 (rd (hvS ws (k + 1)) (x : Int))) ∧ w' = wr.drewN n) := Lib.hid (fun n => (have_p ws (hvS ws (k + 1)) p a b ca (wr.drewN n) (HTj.out.drewN n) x HX.out.1).mono fun _ _ ⟨h1, h2⟩ => ⟨h1, h2.symm⟩)
          have HC3 : Hid (∀ n c, Calls Try.prog 23 #[.slice (some ad) ws.length c] (wr.drewN n) fun e w' => e = .returned (.int .i64 (cyc ws)) ∧ w' = wr.drewN n) := Lib.hid (fun n c => (cycle_r ws _ _ _ (Kd.C_drewN HRq.out n) HOK.out.mid).mono fun _ _ ⟨h1, h2⟩ => ⟨h1, h2.symm⟩)
          go_wp2
          go_quiet (first | (go_at_call 26; exact Calls.quiet_of_same (HC1.out _)) | (go_at_call 22; exact Calls.quiet_of_same (HC2.out _)) | (go_at_call 23; exact Calls.quiet_of_same (HC3.out _ _)))
          go_wp2
          go_roundw
          case rel => exact ⟨k + 1, A4, c4, rfl, by go_num, by omega, Lib.hid (HTj.out.drewN _), Lib.hid (row_drewN HRj.out _), Lib.hid (low_drewN HBj.out _)⟩
          case measure => simp [intOf]; omega
    · go_wp2_with (first | (go_at_call 17; refine (awake_p _).mono ?_; rintro e w5 ⟨rfl, ho5⟩; have HO5 := Lib.hid ho5; clear ho5))
      go_ret
      exact ⟨rfl, HBr.out.trans (HO5.out.mono hlw)⟩

theorem fair_walk (A : Option Addr) (ws : List Int) (c : Nat) (n : Int) (w : World) (hr : Kd.C (Kd.int .i64) w A ws.length ws) :
    Calls Try.prog 7 #[.slice A ws.length c, .int .i64 n] w fun e w' => e = .returned (.bool true) ∧ Below w.heap.size w w' := by
  by_cases h3 : Ok ws
  · by_cases h2 : 100 < n
    · exact fair_big ws A c n w hr h3 h2
    · have hp := h3.pos
      obtain ⟨ad, rfl, _⟩ := Kd.at_int hr 0 (by omega) (by omega)
      exact fair_ok ws ad c n w hr h3 (by omega)
  · exact fair_no ws A c n w hr h3

end Go.Proofs.Ytpophcmdhpechaa.Tur

/- The contracts of the document's functions of turns: Right, Cycle, Count, Have and Next. -/
import Derived.Test.YtpophcmdhpechaaTur
import Derived.Test.YtpophcmdhpechaaTurP
set_option linter.unusedVariables false
set_option linter.unusedSimpArgs false
namespace Go.Proofs.Ytpophcmdhpechaa.Tur
open Go.RowKit Go.Proofs.Ytpophcmdhpechaa.Base Go.Proofs.YtpophcmdhpechaaW.PrintWords Go.Proofs.YtpophcmdhpechaaW.PrintMore
attribute [local go_sem] max2_mx min2_mn max_two min_two max_three min_three max_four min_four

/-- Bounds of the weights. -/
structure Mid (ws : List Int) : Prop where
  n : ws.length ≤ 64
  b : ∀ i, i < ws.length → 0 ≤ rd ws (i : Int) ∧ rd ws (i : Int) ≤ 1000

theorem Ok.mid {ws : List Int} (h : Ok ws) : Mid ws := ⟨h.n, h.b⟩

theorem Mid.sum {ws : List Int} (h : Mid ws) (k : Nat) (hk : k ≤ ws.length) : 0 ≤ sumK (fun i => rd ws i) k ∧ sumK (fun i => rd ws i) k ≤ 64000 := by
  have h1 := sumK_nonneg (f := fun i => rd ws i) (k := k) (fun i hi => (h.b i (by omega)).1)
  have h2 := sumK_le 1000 (f := fun i => rd ws i) (k := k) (fun i hi => (h.b i (by omega)).2)
  have := h.n
  omega

set_option maxHeartbeats 1000000 in
theorem cycle_r (ws : List Int) (A : Option Addr) (c : Nat) (w : World) (hr : Kd.C (Kd.int .i64) w A ws.length ws) (hm : Mid ws) :
    Calls Try.prog 23 #[.slice A ws.length c] w fun e w' => e = .returned (.int .i64 (cyc ws)) ∧ w = w' := by
  have HR := Lib.hid hr
  have HM := Lib.hid hm
  have h64 := hm.n
  clear hr hm
  go_enter Try.func23, Try.ntmps23
  go_wp2
  go_loopw [3, 4] (fun vn vi wr => ∃ i : Nat, vn = .int .i64 (sumK (fun i => rd ws i) i) ∧ vi = .int .i64 (i : Int) ∧ i ≤ ws.length ∧ w = wr) (fun _ vi _ => ws.length - (intOf vi).toNat)
  case atStart => exact ⟨0, rfl, rfl, by omega, rfl⟩
  case round =>
    obtain ⟨i, rfl, rfl, hi, rfl⟩ := hrel
    have hgo : i < ws.length ∨ i = ws.length := by omega
    rcases hgo with hlt | rfl
    · have hlt' : (i : Int) < ws.length := by omega
      obtain ⟨ad, rfl, hx⟩ := Kd.at_int HR.out (i : Int) (by omega) hlt'
      rw [Int.toNat_natCast] at hx
      have hs := HM.out.sum (i + 1) (by omega)
      have HS : Hid (sumK (fun i => rd ws i) (i + 1) = sumK (fun i => rd ws i) i + rd ws (i : Int)) := Lib.hid rfl
      have hw : wrap64 (sumK (fun i => rd ws i) i + rd ws (i : Int)) = sumK (fun i => rd ws i) (i + 1) := by rw [HS.out] at hs ⊢; unfold wrap64; omega
      clear hs
      go_wp2
      go_roundw
      case rel => exact ⟨i + 1, by rw [hw], by go_num, by omega, by trivial⟩
      case measure => simp [intOf]; omega
    · go_wp2
      go_ret
      exact ⟨rfl, rfl⟩

theorem cnt_take (l : List Int) (i k : Nat) (h : k < l.length) : cnt (l.take (k + 1)) i = cnt (l.take k) i + (if rd l (k : Int) = (i : Int) then 1 else 0) := by
  have e : l.take (k + 1) = l.take k ++ [rd l (k : Int)] := by
    rw [List.take_add_one, List.getElem?_eq_getElem h]
    unfold rd
    rw [Int.toNat_natCast, List.getD_eq_getElem?_getD, List.getElem?_eq_getElem h]; rfl
  rw [e, cnt_snoc]

theorem cnt_le (l : List Int) (i : Nat) : 0 ≤ cnt l i ∧ cnt l i ≤ l.length := by
  have := List.length_filter_le (fun x => x == (i : Int)) l
  unfold cnt; omega

set_option maxHeartbeats 1000000 in
theorem count_r (l : List Int) (A : Option Addr) (c : Nat) (w : World) (i : Nat) (hr : Kd.C (Kd.int .i64) w A l.length l) (hm : l.length ≤ 1000) :
    Calls Try.prog 26 #[.slice A l.length c, .int .i64 (i : Int)] w fun e w' => e = .returned (.int .i64 (cnt l i)) ∧ w = w' := by
  have HR := Lib.hid hr
  clear hr
  go_enter Try.func26, Try.ntmps26
  go_wp2
  go_loopw [5, 6] (fun vn vi wr => ∃ k : Nat, vn = .int .i64 (cnt (l.take k) i) ∧ vi = .int .i64 (k : Int) ∧ k ≤ l.length ∧ w = wr) (fun _ vi _ => l.length - (intOf vi).toNat)
  case atStart => exact ⟨0, rfl, rfl, by omega, rfl⟩
  case round =>
    obtain ⟨k, rfl, rfl, hi, rfl⟩ := hrel
    have hgo : k < l.length ∨ k = l.length := by omega
    rcases hgo with hlt | rfl
    · have hlt' : (k : Int) < l.length := by omega
      obtain ⟨ad, rfl, hx⟩ := Kd.at_int HR.out (k : Int) (by omega) hlt'
      rw [Int.toNat_natCast] at hx
      have HS := Lib.hid (cnt_take l i k hlt)
      have hb : 0 ≤ cnt (l.take k) i ∧ cnt (l.take k) i ≤ 1000 := by have := cnt_le (l.take k) i; rw [List.length_take] at this; omega
      generalize cnt (l.take k) i = m at *
      have hb1 := hb.1
      have hb2 := hb.2
      clear hb
      by_cases hc : rd l (k : Int) = (i : Int)
      · have HS2 : Hid (cnt (l.take (k + 1)) i = m + 1) := Lib.hid (by rw [HS.out, if_pos hc])
        have hcb : (rd l (k : Int) == (i : Int)) = true := by simp [hc]
        clear hc
        go_wp2
        go_roundw
        case rel => exact ⟨k + 1, by first | rw [HS2.out]; done | (rw [HS2.out]; go_num), by go_num, by omega, by trivial⟩
        case measure => simp [intOf]; omega
      · have HS2 : Hid (cnt (l.take (k + 1)) i = m) := Lib.hid (by rw [HS.out, if_neg hc]; omega)
        have hcb : (rd l (k : Int) == (i : Int)) = false := by simp [hc]
        clear hc
        go_wp2
        go_roundw
        case rel => exact ⟨k + 1, by rw [HS2.out], by go_num, by omega, by trivial⟩
        case measure => simp [intOf]; omega
    · rw [List.take_length]
      go_wp2
      go_ret
      exact ⟨rfl, rfl⟩

/-- The document's Have. -/
def hav (ws l : List Int) (i : Nat) : Int := l.length * rd ws (i : Int) - cyc ws * cnt l i

theorem prod_le {a b x y : Int} (h1 : 0 ≤ a) (h2 : a ≤ x) (h3 : 0 ≤ b) (h4 : b ≤ y) : 0 ≤ a * b ∧ a * b ≤ x * y :=
  ⟨Int.mul_nonneg h1 h3, Int.mul_le_mul h2 h4 h3 (by omega)⟩

theorem hav_facts {ws l : List Int} (h : Mid ws) (hl : l.length ≤ 1000) (i : Nat) (hi : i < ws.length) :
    wrap64 ((l.length : Int) * rd ws (i : Int)) = l.length * rd ws (i : Int) ∧ wrap64 (cyc ws * cnt l i) = cyc ws * cnt l i ∧ wrap64 (l.length * rd ws (i : Int) - cyc ws * cnt l i) = hav ws l i ∧ -100000000 ≤ hav ws l i ∧ hav ws l i ≤ 100000000 := by
  have h1 := prod_le (a := (l.length : Int)) (x := 1000) (by omega) (by omega) (h.b i hi).1 (h.b i hi).2
  have h2 : 0 ≤ cyc ws ∧ cyc ws ≤ 64000 := h.sum ws.length (Nat.le_refl _)
  have h3 := cnt_le l i
  have h4 := prod_le (a := cyc ws) (x := 64000) h2.1 h2.2 h3.1 (show cnt l i ≤ 1000 by omega)
  unfold hav
  generalize (l.length : Int) * rd ws (i : Int) = x at *
  generalize cyc ws * cnt l i = y at *
  unfold wrap64
  omega

set_option maxHeartbeats 1000000 in
theorem have_r (ws l : List Int) (ad : Addr) (A2 : Option Addr) (c c2 : Nat) (w : World) (i : Nat) (hr : Kd.C (Kd.int .i64) w (some ad) ws.length ws) (hr2 : Kd.C (Kd.int .i64) w A2 l.length l) (hm : Mid ws) (hl : l.length ≤ 1000) (hi : i < ws.length) :
    Calls Try.prog 25 #[.slice (some ad) ws.length c, .slice A2 l.length c2, .int .i64 (i : Int)] w fun e w' => e = .returned (.int .i64 (hav ws l i)) ∧ ∃ m, w' = w.drewN m := by
  have HR := Lib.hid hr
  have HR2 := Lib.hid hr2
  have HM := Lib.hid hm
  have HL := Lib.hid hl
  have hlt' : (i : Int) < ws.length := by omega
  obtain ⟨ad', e, hx⟩ := Kd.at_int hr (i : Int) (by omega) hlt'
  cases e
  rw [Int.toNat_natCast] at hx
  obtain ⟨h1, h2, h3, _, _⟩ := hav_facts hm hl i hi
  clear hr hr2 hm hl
  go_enter Try.func25, Try.ntmps25
  go_wp2
  go_quiet (first | (go_at_call 23; exact Calls.quiet_of_same ((cycle_r ws _ _ _ (Kd.C_drewN HR.out _) HM.out).mono fun _ _ ⟨h1, h2⟩ => ⟨h1, h2.symm⟩)) | (go_at_call 26; exact Calls.quiet_of_same ((count_r l _ _ _ i (Kd.C_drewN HR2.out _) HL.out).mono fun _ _ ⟨h1, h2⟩ => ⟨h1, h2.symm⟩)))
  go_wp2
  go_ret
  exact ⟨ret_int h3, _, rfl⟩

theorem hav_is {ws hv l : List Int} (hb : Behind ws hv l) (i : Nat) (hi : i < ws.length) : hav ws l i = rd hv (i : Int) := (hb.has i hi).symm

theorem Behind.near {ws hv l : List Int} (hb : Behind ws hv l) (h : Ok ws) (hl : l.length ≤ 1000) (i : Nat) (hi : i < ws.length) : -100000000 ≤ rd hv (i : Int) ∧ rd hv (i : Int) ≤ 100000000 := by
  have := hav_facts h.mid hl i hi
  rw [hav_is hb i hi] at this
  exact this.2.2.2

/-- Where the document's Next is before its k-th place. -/
def at' (f : Nat → Int) : Nat → Int
  | 0 => -1
  | k + 1 => (best f (k + 1) : Nat)

set_option maxHeartbeats 4000000 in
theorem next_r (ws hv l : List Int) (ad : Addr) (A2 : Option Addr) (c c2 : Nat) (w : World) (hr : Kd.C (Kd.int .i64) w (some ad) ws.length ws) (hr2 : Kd.C (Kd.int .i64) w A2 l.length l) (hok : Ok ws) (hb : Behind ws hv l) (hl : l.length ≤ 1000) :
    Calls Try.prog 24 #[.slice (some ad) ws.length c, .slice A2 l.length c2] w fun e w' => e = .returned (.int .i64 (nxt ws hv : Nat)) ∧ ∃ m, w' = w.drewN m := by
  have HR := Lib.hid hr
  have HR2 := Lib.hid hr2
  have HM := Lib.hid hok
  have HL := Lib.hid hl
  have HBE := Lib.hid hb
  have h64 := hok.n
  have hpos := hok.pos
  clear hr hr2 hok hl hb
  go_enter Try.func24, Try.ntmps24
  go_wp2
  go_loopw [5, 6] (fun vat vi wr => ∃ k : Nat, vat = .int .i64 (at' (plus ws hv) k) ∧ vi = .int .i64 (k : Int) ∧ k ≤ ws.length ∧ Hid (∃ m, wr = w.drewN m)) (fun _ vi _ => ws.length - (intOf vi).toNat)
  case atStart => exact ⟨0, rfl, rfl, by omega, Lib.hid ⟨0, rfl⟩⟩
  case round =>
    obtain ⟨k, rfl, rfl, hi, HD⟩ := hrel
    have HRr : Hid (Kd.C (Kd.int .i64) wr (some ad) ws.length ws) := Lib.hid (by obtain ⟨m, e⟩ := HD.out; rw [e]; exact Kd.C_drewN HR.out _)
    have HRr2 : Hid (Kd.C (Kd.int .i64) wr A2 l.length l) := Lib.hid (by obtain ⟨m, e⟩ := HD.out; rw [e]; exact Kd.C_drewN HR2.out _)
    have HD2 : Hid (∀ n, ∃ m, wr.drewN n = w.drewN m) := Lib.hid (fun n => by obtain ⟨m, e⟩ := HD.out; exact ⟨m + n, by rw [e, World.drewN_drewN]⟩)
    have hgo : k = 0 ∧ k < ws.length ∨ 0 < k ∧ k < ws.length ∨ k = ws.length := by omega
    rcases hgo with ⟨rfl, hlt⟩ | ⟨h0, hlt⟩ | rfl
    · have hlt' : (0 : Int) < ws.length := by omega
      have e0 : at' (plus ws hv) 0 = -1 := rfl
      rw [e0]
      go_wp2
      go_quiet (fail)
      go_wp2
      go_roundw
      case rel => exact ⟨1, by simp [at', best], by go_num, by omega, Lib.hid (HD2.out _)⟩
      case measure => simp [intOf]; omega
    · have hlt' : (k : Int) < ws.length := by omega
      have hb1 := best_lt (plus ws hv) k h0
      have e0 : at' (plus ws hv) k = (best (plus ws hv) k : Nat) := by cases k with | zero => omega | succ k => rfl
      have HS : Hid (at' (plus ws hv) (k + 1) = (if plus ws hv (best (plus ws hv) k) < plus ws hv k then (k : Int) else (best (plus ws hv) k : Nat))) := Lib.hid (by
        show ((if plus ws hv (best (plus ws hv) k) < plus ws hv k then k else best (plus ws hv) k : Nat) : Int) = _
        split <;> rfl)
      rw [e0]
      generalize best (plus ws hv) k = bk at *
      have hbk : bk < ws.length := by omega
      have hbk' : (bk : Int) < ws.length := by omega
      obtain ⟨ad', e, hx⟩ := Kd.at_int HRr.out (k : Int) (by omega) hlt'
      cases e
      rw [Int.toNat_natCast] at hx
      obtain ⟨ad', e, hx2⟩ := Kd.at_int HRr.out (bk : Int) (by omega) hbk'
      cases e
      rw [Int.toNat_natCast] at hx2
      have HK1 := Lib.hid hlt
      have HK2 := Lib.hid hbk
      have hn1 : ((bk : Int) == -1) = false := by simp
      have f1 : wrap64 (hav ws l k + rd ws (k : Int)) = plus ws hv k := by
        rw [hav_is HBE.out k hlt]; have := HBE.out.near HM.out HL.out k hlt; have := HM.out.b k hlt; unfold plus wrap64; omega
      have f2 : wrap64 (hav ws l bk + rd ws (bk : Int)) = plus ws hv bk := by
        rw [hav_is HBE.out bk hbk]; have := HBE.out.near HM.out HL.out bk hbk; have := HM.out.b bk hbk; unfold plus wrap64; omega
      have HF : Hid (∀ j : Nat, j < ws.length → ∀ n, Calls Try.prog 25 #[.slice (some ad) ws.length c, .slice A2 l.length c2, .int .i64 (j : Int)] (wr.drewN n) fun e w' => e = .returned (.int .i64 (hav ws l j)) ∧ ∃ m, w' = (wr.drewN n).drewN m) :=
        Lib.hid (fun j hj n => have_r ws l ad A2 c c2 _ j (Kd.C_drewN HRr.out _) (Kd.C_drewN HRr2.out _) HM.out.mid HL.out hj)
      by_cases hc : plus ws hv bk < plus ws hv k
      · have HS2 : Hid (at' (plus ws hv) (k + 1) = (k : Int)) := Lib.hid (by rw [HS.out, if_pos hc])
        clear HS HBE
        go_wp2
        go_quiet ((go_at_call 25; refine Calls.quiet_of (HF.out _ ?_ _); first | exact HK1.out | exact HK2.out))
        go_wp2
        go_roundw
        case rel => exact ⟨k + 1, by rw [HS2.out], by go_num, by omega, Lib.hid (HD2.out _)⟩
        case measure => simp [intOf]; omega
      · have HS2 : Hid (at' (plus ws hv) (k + 1) = (bk : Int)) := Lib.hid (by rw [HS.out, if_neg hc])
        clear HS HBE
        go_wp2
        go_quiet ((go_at_call 25; refine Calls.quiet_of (HF.out _ ?_ _); first | exact HK1.out | exact HK2.out))
        go_wp2
        go_roundw
        case rel => exact ⟨k + 1, by rw [HS2.out], by go_num, by omega, Lib.hid (HD2.out _)⟩
        case measure => simp [intOf]; omega
    · have HE : Hid (at' (plus ws hv) ws.length = (nxt ws hv : Nat)) := Lib.hid (by
        unfold nxt
        rcases Nat.exists_eq_succ_of_ne_zero (show ws.length ≠ 0 by omega) with ⟨j, hj⟩
        rw [hj]; rfl)
      go_wp2
      go_ret
      exact ⟨ret_int HE.out, HD.out⟩

/-- Right, of weights that may be. -/
theorem right_ok (ws : List Int) (A : Option Addr) (c : Nat) (w : World) (hr : Kd.C (Kd.int .i64) w A ws.length ws) (hok : Ok ws) :
    Calls Try.prog 19 #[.slice A ws.length c] w fun e w' => e = .returned (.bool true) ∧ w = w' := by
  have HR := Lib.hid hr
  have HM := Lib.hid hok
  have h64 := hok.n
  have h64' : ¬ (64 : Int) < ws.length := by omega
  have hcp := hok.c
  clear hr hok
  go_enter Try.func19, Try.ntmps19
  go_wp2
  go_loopw [3] (fun vi wr => ∃ k : Nat, vi = .int .i64 (k : Int) ∧ k ≤ ws.length ∧ w = wr) (fun vi _ => ws.length - (intOf vi).toNat)
  case atStart => exact ⟨0, rfl, by omega, rfl⟩
  case round =>
    obtain ⟨k, rfl, hi, rfl⟩ := hrel
    have hgo : k < ws.length ∨ k = ws.length := by omega
    rcases hgo with hlt | rfl
    · have hlt' : (k : Int) < ws.length := by omega
      obtain ⟨ad, rfl, hx⟩ := Kd.at_int HR.out (k : Int) (by omega) hlt'
      rw [Int.toNat_natCast] at hx
      obtain ⟨hb1, hb2⟩ := HM.out.b k hlt
      have hb3 : ¬ rd ws (k : Int) < 0 := by omega
      have hb4 : ¬ 1000 < rd ws (k : Int) := by omega
      go_wp2
      go_roundw
      case rel => exact ⟨k + 1, by go_num, by omega, by trivial⟩
      case measure => simp [intOf]; omega
    · go_wp2_with (go_at_call 23; refine (cycle_r ws _ _ _ HR.out HM.out.mid).mono ?_; rintro e w' ⟨rfl, rfl⟩)
      go_ret
      exact ⟨rfl, rfl⟩

/-- Right, of others. -/
theorem right_no (ws : List Int) (A : Option Addr) (c : Nat) (w : World) (hr : Kd.C (Kd.int .i64) w A ws.length ws) (hl : ws.length ≤ 70) (hno : ¬ Ok ws) :
    Calls Try.prog 19 #[.slice A ws.length c] w fun e w' => e = .returned (.bool false) ∧ w = w' := by
  have HR := Lib.hid hr
  have HM := Lib.hid hno
  clear hr hno
  by_cases h64 : 64 < ws.length
  · have h64' : (64 : Int) < ws.length := by omega
    go_enter Try.func19, Try.ntmps19
    go_wp2
    go_ret
    exact ⟨rfl, rfl⟩
  have h64' : ¬ (64 : Int) < ws.length := by omega
  go_enter Try.func19, Try.ntmps19
  go_wp2
  go_loopw [3] (fun vi wr => ∃ k : Nat, vi = .int .i64 (k : Int) ∧ k ≤ ws.length ∧ Hid (∀ j : Nat, j < k → 0 ≤ rd ws (j : Int) ∧ rd ws (j : Int) ≤ 1000) ∧ w = wr) (fun vi _ => ws.length - (intOf vi).toNat)
  case atStart => exact ⟨0, rfl, by omega, Lib.hid (fun j hj => by omega), rfl⟩
  case round =>
    obtain ⟨k, rfl, hi, HJ, rfl⟩ := hrel
    have hgo : k < ws.length ∨ k = ws.length := by omega
    rcases hgo with hlt | rfl
    · have hlt' : (k : Int) < ws.length := by omega
      obtain ⟨ad, rfl, hx⟩ := Kd.at_int HR.out (k : Int) (by omega) hlt'
      rw [Int.toNat_natCast] at hx
      have hgo : rd ws (k : Int) < 0 ∨ ¬ rd ws (k : Int) < 0 ∧ 1000 < rd ws (k : Int) ∨ ¬ rd ws (k : Int) < 0 ∧ ¬ 1000 < rd ws (k : Int) := by omega
      rcases hgo with hb3 | ⟨hb3, hb4⟩ | ⟨hb3, hb4⟩
      · go_wp2
        go_ret
        exact ⟨rfl, rfl⟩
      · go_wp2
        go_ret
        exact ⟨rfl, rfl⟩
      · have HJ2 : Hid (∀ j : Nat, j < k + 1 → 0 ≤ rd ws (j : Int) ∧ rd ws (j : Int) ≤ 1000) := Lib.hid (fun j hj => by
          by_cases c : j = k
          · subst c; omega
          · exact HJ.out j (by omega))
        go_wp2
        go_roundw
        case rel => exact ⟨k + 1, by go_num, by omega, HJ2, by trivial⟩
        case measure => simp [intOf]; omega
    · have HMi : Hid (Mid ws) := Lib.hid ⟨by omega, HJ.out⟩
      have hcz : decide (0 < cyc ws) = false := decide_eq_false (fun h => HM.out ⟨HMi.out.n, HMi.out.b, h⟩)
      have HZ := Lib.hid hcz
      go_wp2_with (go_at_call 23; refine (cycle_r ws _ _ _ HR.out HMi.out).mono ?_; rintro e w' ⟨rfl, rfl⟩)
      go_ret
      exact ⟨by first | rfl | (rw [← HZ.out]; rfl), rfl⟩

end Go.Proofs.Ytpophcmdhpechaa.Tur

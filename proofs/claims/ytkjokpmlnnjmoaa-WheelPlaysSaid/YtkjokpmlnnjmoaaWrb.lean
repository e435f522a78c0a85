/- Wheel: the document's Advance. -/
import Derived.Test.YtkjokpmlnnjmoaaWra
set_option linter.unusedVariables false
set_option linter.unusedSimpArgs false
namespace Go.Proofs.Ytkjokpmlnnjmoaa.Wh
open Go.RowKit Go.Maps Go.Proofs.Ytkjokpmlnnjmoaa.Base Go.Proofs.Ytkjokpmlnnjmoaa.Rws Go.Proofs.YtkjokpmlnnjmoaaW.PrintWords Go.Proofs.YtkjokpmlnnjmoaaW.PrintMore
attribute [local go_sem] max2_mx min2_mn max_two min_two max_three min_three max_four min_four

def slen : Value → Nat
  | .slice _ n _ => n
  | _ => 0

/-- What the document's Advance tells, and leaves. -/
def AdvR (w : World) (r : Nat) (G : Nat → Prop) (e last : Int) (L : List (Int × Int)) (en : Ending) (w' : World) : Prop :=
  ∃ v v' i, en = .returned v ∧ Ks w' (fun k => w.heap.size ≤ k) v ((L.take i).map Prod.snd) ∧ RS w' r G e last v' (L.drop i) ∧ (∀ p ∈ L.take i, p.1 ≤ e) ∧ (∀ p, L[i]? = some p → e < p.1) ∧ Only G w w'

set_option maxHeartbeats 8000000 in
set_option maxRecDepth 100000 in
theorem radv_p {w : World} {r : Nat} {G : Nat → Prop} {n last : Int} {v : Value} {L : List (Int × Int)} (x : Int) (h : RS w r G n last v L) (hL : L.length ≤ 10000) {e : Int} (he : e = mx (cl x) n) :
    Calls Try.prog 37 #[.pointer (some ⟨r, 0, none⟩), .int .i64 x] w (AdvR w r G e last L) := by
  have HR := Lib.hid h
  have HC : Hid (∀ w, Calls Try.prog 13 #[.int .i64 x] w fun e w' => e = .returned (.int .i64 (cl x)) ∧ w' = w) := Lib.hid (fun w => (clampR_p x w).mono fun _ _ h => ⟨h.1, h.2.symm⟩)
  have HC2 : Hid (∀ w, Calls Try.prog 13 #[.int .i64 x] w fun e w' => e = .returned (.int .i64 (cl x)) ∧ w = w') := Lib.hid (clampR_p x)
  obtain ⟨y, hy⟩ : ∃ y, y = cl x := ⟨_, rfl⟩
  rw [← hy] at HC HC2 he
  have HE := Lib.hid he
  have HLL := Lib.hid hL
  have z0 := h.now
  have f0 := h.frozen 0
  clear h hL he hy
  obtain ⟨N, hN⟩ : ∃ N, N = L.length := ⟨_, rfl⟩
  have HN := Lib.hid hN
  have HNB : Hid (N ≤ 10000) := Lib.hid (by have := HLL.out; omega)
  have HGS : Hid (∀ k, G k → k < w.heap.size) := Lib.hid HR.out.flt
  clear hN
  go_enter Try.func37, Try.ntmps37
  go_upto_region 1 with fail
  go_quiet ((go_at_call 13; exact Calls.quiet_of_same (HC.out _)))
  obtain ⟨w1, hw1⟩ : ∃ w1, w1 = w.drewN nq := ⟨_, rfl⟩
  rw [← hw1]
  have HO1 : Hid (Only (fun _ => False) w w1) := by rw [hw1]; exact Lib.hid ((Only.refl _ w).drewN _)
  have HS1 := Lib.hid (HR.out.only HO1.out (fun _ _ h => h))
  clear hw1 z0 f0
  have z1 := HS1.out.now
  have f1 := HS1.out.frozen 0
  by_cases hyn : n < y
  · have hd : n < y := hyn
    have hey : e = y := by rw [HE.out]; unfold mx; split <;> omega
    obtain ⟨w2, hw2⟩ : ∃ w2, w2 = w1.setCell ⟨r, 0, none⟩ (.int .i64 y) := ⟨_, rfl⟩
    have HS2 : Hid (RS w2 r G e last v L) := by rw [hw2, hey]; exact Lib.hid (HS1.out.setNow y).1
    have HO2 : Hid (Only G w w2) := by rw [hw2]; exact Lib.hid ((HO1.out.mono (fun _ h => h.elim)).trans ((HS1.out.setNow y).2.mono (fun k hk => by rw [hk]; exact HR.out.gr)))
    clear hyn hey
    go_upto_region 4 with (go_at_call 13; refine (HC2.out _).mono ?_; rintro e w' ⟨rfl, rfl⟩)
    rw [← hw2]
    clear hw2 z1 f1 HS1 HO1
    go_loopw [5] (fun v5 wr => ∃ (i : Nat) (A5 : Option Addr) (c5 : Nat) (vi : Value), v5 = .slice A5 i c5 ∧ i ≤ N ∧ Hid (RS wr r G e last vi (L.drop i)) ∧ Hid (Ks wr (fun k => w.heap.size ≤ k) v5 ((L.take i).map Prod.snd)) ∧ Hid (∀ p ∈ L.take i, p.1 ≤ e) ∧ Hid (Only G w wr)) (fun v5 _ => N - slen v5)
    case atStart => exact ⟨0, none, 0, v, rfl, Nat.zero_le _, HS2, Lib.hid (Row.nil _ _ _ _), Lib.hid (by simp), HO2⟩
    case round =>
      clear HS2 HO2
      obtain ⟨i, A5, c5, vi, rfl, hi, HRI, HKI, HPI, HOI⟩ := hrel
      have hNb := HNB.out
      obtain ⟨Ai, ci, hvi, hci⟩ := Row.form HRI.out.row
      have hcap := HRI.out.row
      rw [hvi] at hcap
      have hcap2 := Row.cap hcap
      clear hcap
      obtain ⟨M, hM⟩ : ∃ M, M = (L.drop i).length := ⟨_, rfl⟩
      rw [← hM] at hvi hci
      subst hvi
      have hMN : M = N - i := by rw [hM, List.length_drop, HN.out]
      have HM := Lib.hid hM
      have hz2 := HRI.out.val
      have hz0 := HRI.out.now
      clear hM
      have hgo : i < N ∨ i = N := by omega
      rcases hgo with hlt | rfl
      · have hM0 : 0 < M := by omega
        clear hMN
        have hrow := HRI.out.row
        unfold Rs at hrow
        rw [← HM.out] at hrow
        obtain ⟨q, o, d, hs, _⟩ := Row.some_ hrow (by omega)
        injection hs with s1 s2 s3
        subst s1 s3
        have hil : i < L.length := by rw [← HN.out]; exact hlt
        have hge : L[i]? = some L[i] := List.getElem?_eq_getElem hil
        obtain ⟨p, hp⟩ : ∃ p, p = L[i] := ⟨_, rfl⟩
        rw [← hp] at hge
        have hge0 : (L.drop i)[0]? = some p := by rw [List.getElem?_drop, Nat.add_zero]; exact hge
        have hx0 : wr.cell? ⟨q, o, none⟩ = some (.int .i64 p.1) := Row.cell hrow 0 (by have := encP_at (L.drop i) 0 0 p hge0 (by decide); exact this)
        have hx1 : wr.cell? ⟨q, o + 1, none⟩ = some (.int .i64 p.2) := Row.cell hrow 1 (by have := encP_at (L.drop i) 0 1 p hge0 (by decide); exact this)
        have HGE := Lib.hid hge
        by_cases hpe : p.1 ≤ e
        · have hd : decide (p.1 ≤ e) = true := decide_eq_true hpe
          have HPE := Lib.hid hpe
          have HX := Lib.hid (And.intro hx0 hx1)
          have HRW := Lib.hid hrow
          clear hge hge0 hp hil hpe hrow
          go_upto_region 4 with fail
          go_quiet (fail)
          obtain ⟨w5, hw5⟩ : ∃ w5, w5 = wr.drewN nq := ⟨_, rfl⟩
          rw [← hw5]
          have HOd : Hid (Only (fun _ => False) wr w5) := by rw [hw5]; exact Lib.hid ((Only.refl _ wr).drewN _)
          have HR5 := Lib.hid (HRI.out.only HOd.out (fun _ _ h => h))
          have HK5 := Lib.hid (Row.only HKI.out HOd.out (fun _ _ h => h))
          have hx15 : w5.cell? ⟨q, o + 1, none⟩ = some (.int .i64 p.2) := by rw [hw5]; exact HX.out.2
          clear hw5 hx0 hx1 hz2 hz0
          have hz5 := HR5.out.val
          obtain ⟨v6, w6, hr6, k6, o6⟩ := Ks.app (W := w5) (L := (L.take i).map Prod.snd) HK5.out (fun k hk => by have h1 := HOI.out.size; have h2 := HOd.out.size; omega) (by rw [List.length_map, List.length_take]; omega) p.2 22
          obtain ⟨A6, c6, hv6, _⟩ := Row.form k6
          have hl6 : ((L.take i).map Prod.snd ++ [p.2]).length = i + 1 := by rw [List.length_append, List.length_map, List.length_take, List.length_singleton]; have := HN.out; omega
          rw [hl6] at hv6
          subst hv6
          have hO6 : Only (fun k => (Value.slice A5 i c5).ownBlock = some k) w5 w6 := o6
          have hR6 := HR5.out.only hO6 (fun k hk e2 => by have h1 := (Row.own HK5.out e2).1; have h2 := HGS.out k hk; omega)
          have hz6 := hR6.val
          have hf6 := hR6.frozen 2
          have HR6 := Lib.hid hR6
          have HRU := Lib.hid hr6
          have HK6 := Lib.hid k6
          have hrow6 := Row.only HRW.out (HOd.out.mono (S2 := fun k => (Value.slice A5 i c5).ownBlock = some k) (fun _ h => h.elim)) (fun k hk e2 => by have h1 := (Row.own HKI.out e2).1; have h2 := HGS.out k (Row.own HRW.out hk).1; omega)
          have hrow6b := Row.only hrow6 hO6 (fun k hk e2 => by have h1 := (Row.own HKI.out e2).1; have h2 := HGS.out k (Row.own HRW.out hk).1; omega)
          have HRE := Lib.hid (Rs.rest hrow6b HM.out 1 (by omega))
          have HO6 : Hid (Only G w w6) := Lib.hid ((HOI.out.trans (HOd.out.mono (fun _ h => h.elim))).then_ hO6 (fun k hk => .inr (Row.own HK5.out hk).1))
          clear hr6 k6 o6 hl6 hO6 hR6 hrow6 hrow6b
          have hM1 : 1 ≤ M := by omega
          have hcM : M ≤ ci := by omega
          by_cases hc1 : ci = 1
          · subst hc1
            go_upto_region 6 with (first
              | ((with_reducible refine gate_builtin (b := .append) (xs := #[.tmp 38, .tmp 46]) rfl ?_); at_builtin; go_loud (refine Go.Lib.wpList_append_run_sl _ rfl (.tmp 38) (.tmp 46) 22 rfl _ _ rfl rfl HRU.out ?_)))
            go_wp2
            go_roundw
            case rel =>
              have hdd : (L.drop i).drop 1 = L.drop (i + 1) := by rw [List.drop_drop]
              have hre := HRE.out.2 rfl
              rw [hdd] at hre
              obtain ⟨hS7, hO7⟩ := HR6.out.setVal hre HR.out.gr HR6.out.flt
              refine ⟨i + 1, A6, c6, _, rfl, by omega, Lib.hid hS7, Lib.hid ?_, Lib.hid (fun p' hp' => ?_), Lib.hid (HO6.out.trans (hO7.mono (fun k hk => by rw [hk]; exact HR.out.gr)))⟩
              · rw [List.take_add_one, HGE.out, List.map_append]
                exact Row.only HK6.out hO7 (fun k hk e2 => by have h1 := (Row.own HK6.out hk).1; have h2 := HGS.out r HR.out.gr; omega)
              · rw [List.take_add_one, HGE.out] at hp'
                rcases List.mem_append.1 hp' with h1 | h1
                · exact HPI.out p' h1
                · simp at h1; rw [h1]; exact HPE.out
            case measure =>
              show N - (i + 1) < N - i
              omega
          · go_upto_region 6 with (first
              | ((with_reducible refine gate_builtin (b := .append) (xs := #[.tmp 38, .tmp 46]) rfl ?_); at_builtin; go_loud (refine Go.Lib.wpList_append_run_sl _ rfl (.tmp 38) (.tmp 46) 22 rfl _ _ rfl rfl HRU.out ?_)))
            go_wp2
            go_roundw
            case rel =>
              have hdd : (L.drop i).drop 1 = L.drop (i + 1) := by rw [List.drop_drop]
              have hre := HRE.out.1
              rw [hdd] at hre
              obtain ⟨hS7, hO7⟩ := HR6.out.setVal hre HR.out.gr HR6.out.flt
              refine ⟨i + 1, A6, c6, _, rfl, by omega, Lib.hid hS7, Lib.hid ?_, Lib.hid (fun p' hp' => ?_), Lib.hid (HO6.out.trans (hO7.mono (fun k hk => by rw [hk]; exact HR.out.gr)))⟩
              · rw [List.take_add_one, HGE.out, List.map_append]
                exact Row.only HK6.out hO7 (fun k hk e2 => by have h1 := (Row.own HK6.out hk).1; have h2 := HGS.out r HR.out.gr; omega)
              · rw [List.take_add_one, HGE.out] at hp'
                rcases List.mem_append.1 hp' with h1 | h1
                · exact HPI.out p' h1
                · simp at h1; rw [h1]; exact HPE.out
            case measure =>
              show N - (i + 1) < N - i
              omega
        · have hd : decide (p.1 ≤ e) = false := decide_eq_false hpe
          have HPE : Hid (e < p.1) := Lib.hid (by omega)
          clear hge hge0 hp hil hpe hrow
          go_upto_region 4 with fail
          go_quiet (fail)
          go_wp2
          go_ret
          refine ⟨_, _, i, rfl, Row.only HKI.out ((Only.refl (fun _ => False) wr).drewN _) (fun _ _ h => h), HRI.out.only ((Only.refl (fun _ => False) wr).drewN _) (fun _ _ h => h), HPI.out, fun p' hp' => ?_, HOI.out.drewN _⟩
          rw [HGE.out] at hp'
          injection hp' with hp'
          rw [← hp']
          exact HPE.out
      · have hM0 : M = 0 := by omega
        clear hMN
        subst hM0
        go_upto_region 4 with fail
        go_quiet (fail)
        go_wp2
        go_ret
        refine ⟨_, _, i, rfl, Row.only HKI.out ((Only.refl (fun _ => False) wr).drewN _) (fun _ _ h => h), HRI.out.only ((Only.refl (fun _ => False) wr).drewN _) (fun _ _ h => h), HPI.out, fun p' hp' => ?_, HOI.out.drewN _⟩
        rw [List.getElem?_eq_none (by have := HN.out; omega)] at hp'
        cases hp'
  · have hd : ¬ n < y := hyn
    have hey : e = n := by rw [HE.out]; unfold mx; split <;> omega
    obtain ⟨w2, hw2⟩ : ∃ w2, w2 = w1 := ⟨_, rfl⟩
    have HS2 : Hid (RS w2 r G e last v L) := by rw [hw2, hey]; exact HS1
    have HO2 : Hid (Only G w w2) := by rw [hw2]; exact Lib.hid (HO1.out.mono (fun _ h => h.elim))
    clear hyn hey
    go_upto_region 4 with (go_at_call 13; refine (HC2.out _).mono ?_; rintro e w' ⟨rfl, rfl⟩)
    rw [← hw2]
    clear hw2 z1 f1 HS1 HO1
    go_loopw [5] (fun v5 wr => ∃ (i : Nat) (A5 : Option Addr) (c5 : Nat) (vi : Value), v5 = .slice A5 i c5 ∧ i ≤ N ∧ Hid (RS wr r G e last vi (L.drop i)) ∧ Hid (Ks wr (fun k => w.heap.size ≤ k) v5 ((L.take i).map Prod.snd)) ∧ Hid (∀ p ∈ L.take i, p.1 ≤ e) ∧ Hid (Only G w wr)) (fun v5 _ => N - slen v5)
    case atStart => exact ⟨0, none, 0, v, rfl, Nat.zero_le _, HS2, Lib.hid (Row.nil _ _ _ _), Lib.hid (by simp), HO2⟩
    case round =>
      clear HS2 HO2
      obtain ⟨i, A5, c5, vi, rfl, hi, HRI, HKI, HPI, HOI⟩ := hrel
      have hNb := HNB.out
      obtain ⟨Ai, ci, hvi, hci⟩ := Row.form HRI.out.row
      have hcap := HRI.out.row
      rw [hvi] at hcap
      have hcap2 := Row.cap hcap
      clear hcap
      obtain ⟨M, hM⟩ : ∃ M, M = (L.drop i).length := ⟨_, rfl⟩
      rw [← hM] at hvi hci
      subst hvi
      have hMN : M = N - i := by rw [hM, List.length_drop, HN.out]
      have HM := Lib.hid hM
      have hz2 := HRI.out.val
      have hz0 := HRI.out.now
      clear hM
      have hgo : i < N ∨ i = N := by omega
      rcases hgo with hlt | rfl
      · have hM0 : 0 < M := by omega
        clear hMN
        have hrow := HRI.out.row
        unfold Rs at hrow
        rw [← HM.out] at hrow
        obtain ⟨q, o, d, hs, _⟩ := Row.some_ hrow (by omega)
        injection hs with s1 s2 s3
        subst s1 s3
        have hil : i < L.length := by rw [← HN.out]; exact hlt
        have hge : L[i]? = some L[i] := List.getElem?_eq_getElem hil
        obtain ⟨p, hp⟩ : ∃ p, p = L[i] := ⟨_, rfl⟩
        rw [← hp] at hge
        have hge0 : (L.drop i)[0]? = some p := by rw [List.getElem?_drop, Nat.add_zero]; exact hge
        have hx0 : wr.cell? ⟨q, o, none⟩ = some (.int .i64 p.1) := Row.cell hrow 0 (by have := encP_at (L.drop i) 0 0 p hge0 (by decide); exact this)
        have hx1 : wr.cell? ⟨q, o + 1, none⟩ = some (.int .i64 p.2) := Row.cell hrow 1 (by have := encP_at (L.drop i) 0 1 p hge0 (by decide); exact this)
        have HGE := Lib.hid hge
        by_cases hpe : p.1 ≤ e
        · have hd : decide (p.1 ≤ e) = true := decide_eq_true hpe
          have HPE := Lib.hid hpe
          have HX := Lib.hid (And.intro hx0 hx1)
          have HRW := Lib.hid hrow
          clear hge hge0 hp hil hpe hrow
          go_upto_region 4 with fail
          go_quiet (fail)
          obtain ⟨w5, hw5⟩ : ∃ w5, w5 = wr.drewN nq := ⟨_, rfl⟩
          rw [← hw5]
          have HOd : Hid (Only (fun _ => False) wr w5) := by rw [hw5]; exact Lib.hid ((Only.refl _ wr).drewN _)
          have HR5 := Lib.hid (HRI.out.only HOd.out (fun _ _ h => h))
          have HK5 := Lib.hid (Row.only HKI.out HOd.out (fun _ _ h => h))
          have hx15 : w5.cell? ⟨q, o + 1, none⟩ = some (.int .i64 p.2) := by rw [hw5]; exact HX.out.2
          clear hw5 hx0 hx1 hz2 hz0
          have hz5 := HR5.out.val
          obtain ⟨v6, w6, hr6, k6, o6⟩ := Ks.app (W := w5) (L := (L.take i).map Prod.snd) HK5.out (fun k hk => by have h1 := HOI.out.size; have h2 := HOd.out.size; omega) (by rw [List.length_map, List.length_take]; omega) p.2 22
          obtain ⟨A6, c6, hv6, _⟩ := Row.form k6
          have hl6 : ((L.take i).map Prod.snd ++ [p.2]).length = i + 1 := by rw [List.length_append, List.length_map, List.length_take, List.length_singleton]; have := HN.out; omega
          rw [hl6] at hv6
          subst hv6
          have hO6 : Only (fun k => (Value.slice A5 i c5).ownBlock = some k) w5 w6 := o6
          have hR6 := HR5.out.only hO6 (fun k hk e2 => by have h1 := (Row.own HK5.out e2).1; have h2 := HGS.out k hk; omega)
          have hz6 := hR6.val
          have hf6 := hR6.frozen 2
          have HR6 := Lib.hid hR6
          have HRU := Lib.hid hr6
          have HK6 := Lib.hid k6
          have hrow6 := Row.only HRW.out (HOd.out.mono (S2 := fun k => (Value.slice A5 i c5).ownBlock = some k) (fun _ h => h.elim)) (fun k hk e2 => by have h1 := (Row.own HKI.out e2).1; have h2 := HGS.out k (Row.own HRW.out hk).1; omega)
          have hrow6b := Row.only hrow6 hO6 (fun k hk e2 => by have h1 := (Row.own HKI.out e2).1; have h2 := HGS.out k (Row.own HRW.out hk).1; omega)
          have HRE := Lib.hid (Rs.rest hrow6b HM.out 1 (by omega))
          have HO6 : Hid (Only G w w6) := Lib.hid ((HOI.out.trans (HOd.out.mono (fun _ h => h.elim))).then_ hO6 (fun k hk => .inr (Row.own HK5.out hk).1))
          clear hr6 k6 o6 hl6 hO6 hR6 hrow6 hrow6b
          have hM1 : 1 ≤ M := by omega
          have hcM : M ≤ ci := by omega
          by_cases hc1 : ci = 1
          · subst hc1
            go_upto_region 6 with (first
              | ((with_reducible refine gate_builtin (b := .append) (xs := #[.tmp 38, .tmp 46]) rfl ?_); at_builtin; go_loud (refine Go.Lib.wpList_append_run_sl _ rfl (.tmp 38) (.tmp 46) 22 rfl _ _ rfl rfl HRU.out ?_)))
            go_wp2
            go_roundw
            case rel =>
              have hdd : (L.drop i).drop 1 = L.drop (i + 1) := by rw [List.drop_drop]
              have hre := HRE.out.2 rfl
              rw [hdd] at hre
              obtain ⟨hS7, hO7⟩ := HR6.out.setVal hre HR.out.gr HR6.out.flt
              refine ⟨i + 1, A6, c6, _, rfl, by omega, Lib.hid hS7, Lib.hid ?_, Lib.hid (fun p' hp' => ?_), Lib.hid (HO6.out.trans (hO7.mono (fun k hk => by rw [hk]; exact HR.out.gr)))⟩
              · rw [List.take_add_one, HGE.out, List.map_append]
                exact Row.only HK6.out hO7 (fun k hk e2 => by have h1 := (Row.own HK6.out hk).1; have h2 := HGS.out r HR.out.gr; omega)
              · rw [List.take_add_one, HGE.out] at hp'
                rcases List.mem_append.1 hp' with h1 | h1
                · exact HPI.out p' h1
                · simp at h1; rw [h1]; exact HPE.out
            case measure =>
              show N - (i + 1) < N - i
              omega
          · go_upto_region 6 with (first
              | ((with_reducible refine gate_builtin (b := .append) (xs := #[.tmp 38, .tmp 46]) rfl ?_); at_builtin; go_loud (refine Go.Lib.wpList_append_run_sl _ rfl (.tmp 38) (.tmp 46) 22 rfl _ _ rfl rfl HRU.out ?_)))
            go_wp2
            go_roundw
            case rel =>
              have hdd : (L.drop i).drop 1 = L.drop (i + 1) := by rw [List.drop_drop]
              have hre := HRE.out.1
              rw [hdd] at hre
              obtain ⟨hS7, hO7⟩ := HR6.out.setVal hre HR.out.gr HR6.out.flt
              refine ⟨i + 1, A6, c6, _, rfl, by omega, Lib.hid hS7, Lib.hid ?_, Lib.hid (fun p' hp' => ?_), Lib.hid (HO6.out.trans (hO7.mono (fun k hk => by rw [hk]; exact HR.out.gr)))⟩
              · rw [List.take_add_one, HGE.out, List.map_append]
                exact Row.only HK6.out hO7 (fun k hk e2 => by have h1 := (Row.own HK6.out hk).1; have h2 := HGS.out r HR.out.gr; omega)
              · rw [List.take_add_one, HGE.out] at hp'
                rcases List.mem_append.1 hp' with h1 | h1
                · exact HPI.out p' h1
                · simp at h1; rw [h1]; exact HPE.out
            case measure =>
              show N - (i + 1) < N - i
              omega
        · have hd : decide (p.1 ≤ e) = false := decide_eq_false hpe
          have HPE : Hid (e < p.1) := Lib.hid (by omega)
          clear hge hge0 hp hil hpe hrow
          go_upto_region 4 with fail
          go_quiet (fail)
          go_wp2
          go_ret
          refine ⟨_, _, i, rfl, Row.only HKI.out ((Only.refl (fun _ => False) wr).drewN _) (fun _ _ h => h), HRI.out.only ((Only.refl (fun _ => False) wr).drewN _) (fun _ _ h => h), HPI.out, fun p' hp' => ?_, HOI.out.drewN _⟩
          rw [HGE.out] at hp'
          injection hp' with hp'
          rw [← hp']
          exact HPE.out
      · have hM0 : M = 0 := by omega
        clear hMN
        subst hM0
        go_upto_region 4 with fail
        go_quiet (fail)
        go_wp2
        go_ret
        refine ⟨_, _, i, rfl, Row.only HKI.out ((Only.refl (fun _ => False) wr).drewN _) (fun _ _ h => h), HRI.out.only ((Only.refl (fun _ => False) wr).drewN _) (fun _ _ h => h), HPI.out, fun p' hp' => ?_, HOI.out.drewN _⟩
        rw [List.getElem?_eq_none (by have := HN.out; omega)] at hp'
        cases hp'

end Go.Proofs.Ytkjokpmlnnjmoaa.Wh

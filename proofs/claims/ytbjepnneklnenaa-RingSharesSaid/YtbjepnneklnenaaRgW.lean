/- Ring: how many points; the first point from a place on. -/
import Derived.Test.YtbjepnneklnenaaRgV
set_option linter.unusedVariables false
set_option linter.unusedSimpArgs false
set_option maxRecDepth 100000
namespace Go.Proofs.Ytbjepnneklnenaa.Rg
open Go.RowKit Go.Maps Go.Shelf Go.Lib Go.Sort Go.Proofs.Ytbjepnneklnenaa.Base Go.Proofs.Ytbjepnneklnenaa.Rws Go.Proofs.Ytbjepnneklnenaa.Crc Go.Proofs.YtbjepnneklnenaaW.PrintWords Go.Proofs.YtbjepnneklnenaaW.PrintMore
attribute [local go_sem] max2_mx min2_mn max_two min_two max_three min_three max_four min_four

theorem points_nil (w : World) : Calls Try.prog 12 #[.pointer none] w fun e w' => e = .returned (.int .i64 0) ∧ w = w' := by
  go_enter Try.func12, Try.ntmps12
  go_wp2
  go_ret
  exact ⟨rfl, rfl⟩

theorem points_p {w : World} {g : Nat} {Q : Nat → Prop} {v1 v2 : Value} {M : List Int} {P : List Pt} (h : RG w g Q v1 v2 M P) :
    Calls Try.prog 12 #[.pointer (some ⟨g, 0, none⟩)] w fun e w' => e = .returned (.int .i64 (P.length : Int)) ∧ w = w' := by
  obtain ⟨A, c, hv, _⟩ := Row.form h.ps
  subst hv
  have y1 : w.cell? ⟨g, 1, none⟩ = some (.slice A P.length c) := cell_at h.blk 1 rfl
  obtain ⟨n, hn⟩ : ∃ n, n = P.length := ⟨_, rfl⟩
  rw [← hn] at y1 ⊢
  clear h hn
  go_enter Try.func12, Try.ntmps12
  go_wp2
  go_ret
  exact ⟨rfl, rfl⟩

/-- Ahead of a place. -/
def ahead (p : Pt) (A : Int) : Int := if p.a < A then -1 else 1

theorem ahead_p (p : Pt) (A : Int) (w : World) : Calls Try.prog 26 #[.agg #[.int .u16 p.a, .int .i64 p.m, .int .i64 p.n], .int .u16 A] w fun e w' => e = .returned (.int .i64 (ahead p A)) ∧ Only (fun _ => False) w w' := by
  obtain ⟨a, m, n⟩ := p
  unfold ahead
  simp only
  obtain ⟨w1, hw1⟩ : ∃ w1, w1 = w.alloc (.cells #[.int .u16 a, .int .i64 m, .int .i64 n] 56) := ⟨_, rfl⟩
  obtain ⟨N, hN⟩ : ∃ N, N = w.heap.size := ⟨_, rfl⟩
  have hk : w1.heap[N]? = some (.cells #[.int .u16 a, .int .i64 m, .int .i64 n] 56 (0, 0)) := by rw [hw1, hN]; exact heap_alloc_new w _
  have x0 : w1.cell? ⟨N, 0, none⟩ = some (.int .u16 a) := cell_at hk 0 rfl
  have HO : Hid (Only (fun _ => False) w w1) := Lib.hid (by rw [hw1]; exact (Only.refl _ w).alloc _)
  clear hk
  by_cases h : a < A
  · rw [if_pos h]
    go_enter Try.func26, Try.ntmps26
    go_upto_region 1 with fail
    rw [← hw1, ← hN]
    clear hw1 hN
    go_wp2
    go_ret
    exact ⟨rfl, HO.out⟩
  · rw [if_neg h]
    go_enter Try.func26, Try.ntmps26
    go_upto_region 1 with fail
    rw [← hw1, ← hN]
    clear hw1 hN
    go_wp2
    go_ret
    exact ⟨rfl, HO.out⟩

/-- All ahead of it are ahead of the place; none from it on is. -/
def LB (P : List Pt) (A : Int) (i : Nat) : Prop := (∀ k p, P[k]? = some p → k < i → p.a < A) ∧ (∀ k p, P[k]? = some p → i ≤ k → A ≤ p.a)

theorem sorted_at {P : List Pt} (hs : P.Pairwise (fun a b => leP a b = true)) {i j : Nat} {p q : Pt} (hi : P[i]? = some p) (hj : P[j]? = some q) (hij : i ≤ j) : p.a ≤ q.a := by
  obtain ⟨h1, e1⟩ := List.getElem?_eq_some_iff.1 hi
  obtain ⟨h2, e2⟩ := List.getElem?_eq_some_iff.1 hj
  by_cases h : i = j
  · subst h
    rw [hi] at hj
    injection hj with e
    rw [e]; exact Int.le_refl _
  · have := (List.pairwise_iff_getElem.1 hs) i j h1 h2 (by omega)
    rw [e1, e2] at this
    have h3 := of_decide_eq_true this
    unfold LtP at h3
    omega

set_option maxHeartbeats 4000000 in
theorem search_p {w : World} {Q : Nat → Prop} {v : Value} {P : List Pt} (h : Ps w Q v P) (hl : P.length ≤ 20000) (hs : P.Pairwise (fun a b => leP a b = true)) (A : Int) :
    Calls Try.prog 25 #[v, .int .u16 A, .func (.func 26) #[] #[]] w fun e w' => ∃ i : Nat, e = .returned (.tuple #[.int .i64 (i : Int), .bool false]) ∧ i ≤ P.length ∧ LB P A i ∧ Only (fun _ => False) w w' := by
  obtain ⟨A0, c, hv, _⟩ := Row.form h
  subst hv
  obtain ⟨n, hn⟩ : ∃ n, n = P.length := ⟨_, rfl⟩
  have HP := Lib.hid h
  rw [← hn] at HP hl ⊢
  have HS := Lib.hid hs
  have HN := Lib.hid hn
  clear h hs hn
  go_enter Try.func25, Try.ntmps25
  go_upto_region 3 with fail
  go_loopw [9, 10, 11] (fun v9 v10 _ wr => ∃ i j : Nat, v9 = .int .i64 (i : Int) ∧ v10 = .int .i64 (j : Int) ∧ i ≤ j ∧ j ≤ n ∧ Hid (∀ k p, P[k]? = some p → k < i → p.a < A) ∧ Hid (∀ k p, P[k]? = some p → j ≤ k → A ≤ p.a) ∧ Hid (Only (fun _ => False) w wr)) (fun v9 v10 _ _ => (RowKit.intOf v10).toNat - (RowKit.intOf v9).toNat)
  case atStart => exact ⟨0, n, rfl, rfl, Nat.zero_le _, Nat.le_refl _, Lib.hid (fun k p _ h => by omega), Lib.hid (fun k p hp hk => by
    have := (List.getElem?_eq_some_iff.1 hp).1
    have := HN.out
    omega), Lib.hid (Only.refl _ _)⟩
  case round =>
    obtain ⟨i, j, rfl, rfl, hij, hjn, HA, HB, HO⟩ := hrel
    have hgo : i < j ∨ i = j := by omega
    rcases hgo with hlt | rfl
    · have hlt' : (i : Int) < (j : Int) := by omega
      go_upto_region 5 with fail
      obtain ⟨m, hm⟩ : ∃ m : Nat, ((i : Int) + (j : Int)) / 2 = (m : Int) := ⟨(i + j) / 2, by omega⟩
      rw [hm]
      have hmi : i ≤ m := by omega
      have hmj : m < j := by omega
      clear hm
      have hmn : (m : Int) < (n : Int) := by omega
      obtain ⟨p, hp⟩ : ∃ p, P[m]? = some p := ⟨_, List.getElem?_eq_getElem (by rw [← HN.out]; omega)⟩
      have hk := Row.only HP.out HO.out (fun _ _ h => h)
      rw [← HN.out] at hk
      obtain ⟨q2, o2, c2, he, hcc⟩ := Row.some_ hk (by omega)
      injection he with e1 e2 e3
      subst e1 e3
      have x0 : wr.cell? ⟨q2, o2 + m * 3, none⟩ = some (.int .u16 p.a) := Row.cell hk (m * 3) (by rw [← Nat.add_zero (m * 3), encP_at P m 0 p hp (by omega)]; rfl)
      have x1 : wr.cell? ⟨q2, o2 + m * 3 + 1, none⟩ = some (.int .i64 p.m) := Row.cell hk (m * 3 + 1) (by rw [encP_at P m 1 p hp (by omega)]; rfl)
      have x2 : wr.cell? ⟨q2, o2 + m * 3 + 2, none⟩ = some (.int .i64 p.n) := Row.cell hk (m * 3 + 2) (by rw [encP_at P m 2 p hp (by omega)]; rfl)
      have HAH := Lib.hid (fun w => ahead_p p A w)
      have HPP := Lib.hid hp
      obtain ⟨pa, hpa⟩ : ∃ pa, pa = ahead p A := ⟨_, rfl⟩
      rw [← hpa] at HAH
      have HPA := Lib.hid hpa
      clear hk hcc hp hpa
      by_cases hlo : p.a < A
      · have hpn : pa = -1 := by rw [HPA.out]; unfold ahead; rw [if_pos hlo]
        subst hpn
        have HLO := Lib.hid hlo
        clear hlo
        go_wp2_with (go_at_call 26; refine (HAH.out _).mono ?_; rintro e w1 ⟨rfl, ho⟩; have HO1 := Lib.hid (HO.out.trans ho); clear ho)
        go_roundw
        case rel =>
          refine ⟨m + 1, j, by go_num, rfl, by omega, by omega, Lib.hid (fun k p' hp' hk => ?_), HB, HO1⟩
          have := sorted_at HS.out hp' HPP.out (by omega)
          have := HLO.out
          omega
        case measure => simp [RowKit.intOf]; omega
      · have hpn : pa = 1 := by rw [HPA.out]; unfold ahead; rw [if_neg hlo]
        subst hpn
        have HLO := Lib.hid hlo
        clear hlo
        go_wp2_with (go_at_call 26; refine (HAH.out _).mono ?_; rintro e w1 ⟨rfl, ho⟩; have HO1 := Lib.hid (HO.out.trans ho); clear ho)
        go_roundw
        case rel =>
          refine ⟨i, m, rfl, rfl, by omega, by omega, HA, Lib.hid (fun k p' hp' hk => ?_), HO1⟩
          have := sorted_at HS.out HPP.out hp' (by omega)
          have := HLO.out
          omega
        case measure => simp [RowKit.intOf]; omega
    · have hge : ¬ (i : Int) < (i : Int) := by omega
      by_cases hin : i < n
      · have hin' : (i : Int) < (n : Int) := by omega
        obtain ⟨p, hp⟩ : ∃ p, P[i]? = some p := ⟨_, List.getElem?_eq_getElem (by rw [← HN.out]; omega)⟩
        have hk := Row.only HP.out HO.out (fun _ _ h => h)
        rw [← HN.out] at hk
        obtain ⟨q2, o2, c2, he, hcc⟩ := Row.some_ hk (by omega)
        injection he with e1 e2 e3
        subst e1 e3
        have x0 : wr.cell? ⟨q2, o2 + i * 3, none⟩ = some (.int .u16 p.a) := Row.cell hk (i * 3) (by rw [← Nat.add_zero (i * 3), encP_at P i 0 p hp (by omega)]; rfl)
        have x1 : wr.cell? ⟨q2, o2 + i * 3 + 1, none⟩ = some (.int .i64 p.m) := Row.cell hk (i * 3 + 1) (by rw [encP_at P i 1 p hp (by omega)]; rfl)
        have x2 : wr.cell? ⟨q2, o2 + i * 3 + 2, none⟩ = some (.int .i64 p.n) := Row.cell hk (i * 3 + 2) (by rw [encP_at P i 2 p hp (by omega)]; rfl)
        have HAH := Lib.hid (fun w => ahead_p p A w)
        obtain ⟨pa, hpa⟩ : ∃ pa, pa = ahead p A := ⟨_, rfl⟩
        rw [← hpa] at HAH
        have hnz : ¬ pa = 0 := by rw [hpa]; unfold ahead; split <;> omega
        clear hk hcc hp hpa
        go_wp2_with (go_at_call 26; refine (HAH.out _).mono ?_; rintro e w1 ⟨rfl, ho⟩; have HO1 := Lib.hid (HO.out.trans ho); clear ho)
        go_ret2
        refine ⟨i, ?_, by omega, ⟨HA.out, HB.out⟩, HO1.out⟩
        simp [hnz]
      · have hin' : ¬ (i : Int) < (n : Int) := by omega
        go_wp2
        go_ret2
        exact ⟨i, rfl, by omega, ⟨HA.out, HB.out⟩, HO.out⟩
end Go.Proofs.Ytbjepnneklnenaa.Rg

/- BreakerTrips: the walk of the law. -/
import Derived.Test.YtocbnfpnbgpfjaaBrkB
set_option linter.unusedVariables false
set_option linter.unusedSimpArgs false
namespace Go.Proofs.Ytocbnfpnbgpfjaa.Brk
open Go.RowKit Go.Proofs.Ytocbnfpnbgpfjaa.Base Go.Proofs.YtocbnfpnbgpfjaaW.PrintWords Go.Proofs.YtocbnfpnbgpfjaaW.PrintMore
attribute [local go_sem] max2_mx min2_mn max_two min_two max_three min_three max_four min_four

theorem trips_no (s f r p : Int) (A : Option Addr) (len cap : Nat) (w : World) (h : ¬ Cfg s f r p) :
    Calls Try.prog 5 #[.int .i64 s, .int .i64 f, .int .i64 r, .int .i64 p, .slice A len cap] w fun e w' => e = .returned (.bool true) ∧ Below w.heap.size w w' := by
  go_enter Try.func5, Try.ntmps5
  go_wp2_with (first | (go_at_call 7; refine (new_bad _ _ _ _ _ h).mono ?_; rintro e w1 ⟨rfl, rfl⟩) | (go_at_call 9; refine (awake_p _).mono ?_; rintro e w5 ⟨rfl, ho5⟩; have HO5 := Lib.hid ho5; clear ho5))
  go_ret
  exact ⟨rfl, HO5.out.below (Below.refl _ _) (Nat.le_refl _) (fun _ h => h.elim)⟩

/-- Closed, with the last of these results, at a time that is not ahead. -/
structure TI (s : Int) (σ : St) (L : List Bool) : Prop where
  st : σ.st = 0
  l : σ.l = lastS s L
  n0 : 0 ≤ σ.now
  n1 : σ.now ≤ L.length

theorem trip_allow {s f r p : Int} {σ : St} {L : List Bool} (hc : Cfg s f r p) (h : TI s σ L) (hL : L.length ≤ 80) : (allowM p σ L.length).1 = true ∧ TI s (allowM p σ L.length).2 L := by
  unfold allowM
  rw [if_pos h.st]
  have h0 := h.n0; have h1 := h.n1
  refine ⟨rfl, rfl, h.l, ?_, ?_⟩
  all_goals
    rw [cl_same _ (by omega) (by omega)]
    rcases mx_cases σ.now (L.length : Int) with h | h <;> simp only <;> omega

theorem trip_done {s f r p : Int} {σ : St} {L : List Bool} (b : Bool) (hc : Cfg s f r p) (h : TI s σ L) (hL : L.length ≤ 79) :
    (bads (lastS s (L ++ [b])) < f ∧ TI s (doneM s f r p σ L.length b) (L ++ [b])) ∨ (f ≤ bads (lastS s (L ++ [b])) ∧ (doneM s f r p σ L.length b).st = 1 ∧ (allowM p (doneM s f r p σ L.length b) L.length).1 = false) := by
  have h0 := h.n0; have h1 := h.n1
  have hm : mx σ.now (cl (L.length : Int)) = L.length := by
    rw [cl_same _ (by omega) (by omega)]
    rcases mx_cases σ.now (L.length : Int) with h | h <;> omega
  unfold doneM
  rw [if_pos h.st, h.l, lastOf_lastS s L b hc.s1, hm]
  by_cases hlt : bads (lastS s (L ++ [b])) < f
  · rw [if_pos hlt]
    exact .inl ⟨hlt, rfl, rfl, by simp only; omega, by simp only [List.length_append, List.length_singleton]; omega⟩
  · rw [if_neg hlt]
    refine .inr ⟨by omega, rfl, ?_⟩
    have hr1 := hc.r1; have hr2 := hc.r2
    unfold allowM openM
    simp only
    have hm2 : mx (L.length : Int) (cl (L.length : Int)) = L.length := by
      rw [cl_same _ (by omega) (by omega)]
      rcases mx_cases (L.length : Int) (L.length : Int) with h | h <;> omega
    have ha : ad (L.length : Int) r = L.length + r := by
      unfold ad
      rw [cl_same (L.length : Int) (by omega) (by omega), cl_same r (by omega) (by omega), cl_same _ (by omega) (by omega)]
    rw [hm2, ha, if_neg (by omega), if_pos trivial, if_pos (by omega)]

set_option maxHeartbeats 8000000 in
set_option maxRecDepth 100000 in
theorem trips_yes (s f r p : Int) (A : Option Addr) (n cap : Nat) (l : List Bool) (w : World) (hc : Cfg s f r p) (hA : Bl w A l) (hn : n = l.length) (hlen : n ≤ maxLen) (hcap : n ≤ cap) :
    Calls Try.prog 5 #[.int .i64 s, .int .i64 f, .int .i64 r, .int .i64 p, .slice A n cap] w fun e w' => e = .returned (.bool true) ∧ Below w.heap.size w w' := by
  unfold maxLen at hlen
  have HA := Lib.hid hA
  have HN := Lib.hid hn
  have HCF := Lib.hid hc
  clear hA hn hc
  go_enter Try.func5, Try.ntmps5
  go_wp2_with fail
  refine (new_o _ HCF.out).mono ?_
  rintro e w1 ⟨rfl, h1, o1⟩
  have HW1 := Lib.hid h1
  have HB1 : Hid (Below w.heap.size w w1) := Lib.hid (o1.below (Below.refl _ _) (Nat.le_refl _) (fun _ h => h.elim))
  have HI1 : Hid (Inv s p ⟨0, 0, 0, [], 0, 0⟩) := Lib.hid (inv_new HCF.out)
  have HT1 : Hid (TI s ⟨0, 0, 0, [], 0, 0⟩ (l.take 0)) := Lib.hid ⟨rfl, by simp [lastS], by simp, by simp⟩
  clear h1 o1
  go_wp2
  go_loopw [13] (fun vi wr => ∃ (σ : St) (i : Nat), vi = .int .i64 (i : Int) ∧ i ≤ n ∧ i ≤ 80 ∧ Hid (Ow wr w.heap.size w.heap.size s f r p σ) ∧ Hid (Below w.heap.size w wr) ∧ Hid (Inv s p σ) ∧ Hid (TI s σ (l.take i))) (fun vi _ => 80 - (intOf vi).toNat)
  case atStart => exact ⟨_, 0, rfl, by omega, by omega, HW1, HB1, HI1, HT1⟩
  case round =>
    obtain ⟨σ, i, rfl, hin, hi8, HW, HB, HI, HT⟩ := hrel
    have hgo : (i < n ∧ i < 80) ∨ (i < n ∧ i = 80) ∨ i = n := by omega
    rcases hgo with ⟨hlt, h80⟩ | ⟨hlt, h80⟩ | hlt
    · obtain ⟨b, hb⟩ : ∃ b, l[i]? = some b := ⟨l[i]'(by have := HN.out; omega), List.getElem?_eq_getElem _⟩
      obtain ⟨a, hAa, hca⟩ := HA.out i b hb
      cases hAa
      have HC0 := Lib.hid hca
      have hlt' : (i : Int) < n := by omega
      have h80' : (i : Int) < 80 := by omega
      have hwi : wrap64 ((i : Int) + 1) = (i : Int) + 1 := by unfold wrap64; omega
      have hle : i + 1 ≤ cap := by omega
      have hlen2 : (l.take i).length = i := by rw [List.length_take]; have := HN.out; omega
      have hsn : l.take i ++ [b] = l.take (i + 1) := by rw [List.take_add_one, hb]; rfl
      have hal := trip_allow HCF.out HT.out (by omega)
      have hcal := allow_o HW.out HI.out HCF.out (i : Int)
      have hI2 := allowM_inv HCF.out HI.out (i : Int)
      rw [hlen2] at hal
      rw [hal.1] at hcal
      have HT2 := Lib.hid hal.2
      have HI2 := Lib.hid hI2
      have HAL := Lib.hid hcal
      have HST := Lib.hid HT.out.st
      clear hal hcal hI2
      generalize (allowM p σ (i : Int)).2 = σ2 at *
      have hdn := trip_done b HCF.out HT2.out (by omega)
      rw [hlen2, hsn] at hdn
      have HI3 := Lib.hid (doneM_inv HCF.out HI2.out (i : Int) b)
      have HDN : Hid (∀ w2, Ow w2 w.heap.size w.heap.size s f r p σ2 → Calls Try.prog 13 #[.pointer (some ⟨w.heap.size, 0, none⟩), .int .i64 (i : Int), .bool b] w2 fun e w' => e = .returned (.int .i64 0) ∧ Ow w' w.heap.size w.heap.size s f r p (doneM s f r p σ2 (i : Int) b) ∧ Only (fun k => w.heap.size ≤ k) w2 w') := Lib.hid (fun w2 h => done_o h HI2.out HCF.out (i : Int) b)
      generalize doneM s f r p σ2 (i : Int) b = σ3 at *
      have HBL : Hid (Bl w (some a) (l.take (i + 1))) := Lib.hid (HA.out.take _)
      have HLN : Hid (i + 1 = (l.take (i + 1)).length) := Lib.hid (by rw [List.length_take]; have := HN.out; omega)
      clear hb hca hsn hlen2
      have hc0 := (HB.out.cell (World.block_lt_of_cell? w _ HC0.out)).trans HC0.out
      have HBD : Hid (∀ w2, Bl w2 (some a) (l.take (i + 1)) → Calls Try.prog 17 #[.slice (some a) (i + 1) cap, .int .i64 s] w2 fun e w' => e = .returned (.int .i64 (bads (lastS s (l.take (i + 1))))) ∧ w2 = w') := Lib.hid (fun w2 h => bad_r (some a) (i + 1) cap (l.take (i + 1)) s w2 h HLN.out (by omega) ⟨HCF.out.s1, HCF.out.s2⟩)
      generalize bads (lastS s (l.take (i + 1))) = m at *
      rcases hdn with ⟨hlt2, hti⟩ | ⟨hge, hst3, hal3⟩
      · have HT3 := Lib.hid hti
        have hlt3 : ¬ f ≤ m := by omega
        clear hti
        go_wp2_with (first | (go_at_call 14; refine (state_is HW.out HCF.out HST.out).mono ?_; rintro e w' ⟨rfl, rfl⟩) | (go_at_call 10; refine HAL.out.mono ?_; rintro e w3 ⟨rfl, hw3, ho3⟩; have HW3 := Lib.hid hw3; have HB3 := Lib.hid (ho3.below (u := w) (B := w.heap.size) HB.out (by have := HW.out.lt; exact Nat.le_of_lt this) (fun _ h => h)); have hd0 := (HB3.out.cell (World.block_lt_of_cell? w _ HC0.out)).trans HC0.out; clear hw3 ho3) | (go_at_call 13; refine (HDN.out _ HW3.out).mono ?_; rintro e w4 ⟨rfl, hw4, ho4⟩; have HW4 := Lib.hid hw4; have HB4 := Lib.hid (ho4.below (u := w) (B := w.heap.size) HB3.out (by have := HW3.out.lt; exact Nat.le_of_lt this) (fun _ h => h)); clear hw4 ho4) | (go_at_call 17; refine (HBD.out _ (Bl.below HBL.out (by exact HB4.out))).mono ?_; rintro e w' ⟨rfl, rfl⟩))
        go_roundw
        case rel => exact ⟨σ3, i + 1, by go_num, by omega, by omega, HW4, HB4, HI3, HT3⟩
        case measure => simp [intOf]; omega
      · have HS3 := Lib.hid hst3
        have HL3 : Hid (∀ w2, Ow w2 w.heap.size w.heap.size s f r p σ3 → Calls Try.prog 10 #[.pointer (some ⟨w.heap.size, 0, none⟩), .int .i64 (i : Int)] w2 fun e w' => e = .returned (.bool false) ∧ Ow w' w.heap.size w.heap.size s f r p (allowM p σ3 (i : Int)).2 ∧ Only (fun k => w.heap.size ≤ k) w2 w') := Lib.hid (fun w2 h => by
          have := allow_o h HI3.out HCF.out (i : Int)
          rwa [hal3] at this)
        clear hst3 hal3
        go_wp2_with (first | (go_at_call 14; refine (state_is HW.out HCF.out HST.out).mono ?_; rintro e w' ⟨rfl, rfl⟩) | (go_at_call 10; refine HAL.out.mono ?_; rintro e w3 ⟨rfl, hw3, ho3⟩; have HW3 := Lib.hid hw3; have HB3 := Lib.hid (ho3.below (u := w) (B := w.heap.size) HB.out (by have := HW.out.lt; exact Nat.le_of_lt this) (fun _ h => h)); have hd0 := (HB3.out.cell (World.block_lt_of_cell? w _ HC0.out)).trans HC0.out; clear hw3 ho3) | (go_at_call 13; refine (HDN.out _ HW3.out).mono ?_; rintro e w4 ⟨rfl, hw4, ho4⟩; have HW4 := Lib.hid hw4; have HB4 := Lib.hid (ho4.below (u := w) (B := w.heap.size) HB3.out (by have := HW3.out.lt; exact Nat.le_of_lt this) (fun _ h => h)); clear hw4 ho4) | (go_at_call 17; refine (HBD.out _ (Bl.below HBL.out (by exact HB4.out))).mono ?_; rintro e w' ⟨rfl, rfl⟩) | (go_at_call 14; refine (state_is HW4.out HCF.out HS3.out).mono ?_; rintro e w' ⟨rfl, rfl⟩) | (go_at_call 10; refine (HL3.out _ HW4.out).mono ?_; rintro e w5 ⟨rfl, hw5, ho5⟩; have HB5 := Lib.hid (ho5.below (u := w) (B := w.heap.size) HB4.out (by have := HW4.out.lt; exact Nat.le_of_lt this) (fun _ h => h)); have HW5 := Lib.hid hw5; clear hw5 ho5) | (go_at_call 9; refine (awake_p _).mono ?_; rintro e w6 ⟨rfl, ho6⟩; have HO6 := Lib.hid ho6; clear ho6))
        go_ret
        exact ⟨rfl, HO6.out.below HB5.out (Nat.le_of_lt HW5.out.lt) (fun _ h => h.elim)⟩
    all_goals
      have HTF : Hid (σ.st = 0) := Lib.hid HT.out.st
      go_wp2_with (first | (go_at_call 14; refine (state_is HW.out HCF.out HTF.out).mono ?_; rintro e w' ⟨rfl, rfl⟩) | (go_at_call 9; refine (awake_p _).mono ?_; rintro e w5 ⟨rfl, ho5⟩; have HO5 := Lib.hid ho5; clear ho5))
      go_ret
      exact ⟨rfl, HO5.out.below HB.out (Nat.le_of_lt HW.out.lt) (fun _ h => h.elim)⟩

theorem trips_walk (s f r p : Int) (A : Option Addr) (len cap : Nat) (w : World) (h : ∀ i, i < len → ∃ a, A = some a ∧ ∀ o k, (o, k) ∈ [(0, Args.Bs.bool)] → ∃ v, w.cell? (a.add (i * Try.prog.cellsOf 4 + o)) = some v ∧ k.fit v) (hlen : len ≤ maxLen) (hcap : len ≤ cap) :
    Calls Try.prog 5 #[.int .i64 s, .int .i64 f, .int .i64 r, .int .i64 p, .slice A len cap] w fun e w' => e = .returned (.bool true) ∧ Below w.heap.size w w' := by
  by_cases hc : Cfg s f r p
  · obtain ⟨l, hl, hA⟩ := bools_of h
    exact trips_yes s f r p A len cap l w hc hA hl hlen hcap
  · exact trips_no s f r p A len cap w hc

end Go.Proofs.Ytocbnfpnbgpfjaa.Brk

/- Hist: the third and the fourth law's walks. -/
import Derived.Test.YtognnjhphnhbfaaHiW
set_option linter.unusedVariables false
set_option linter.unusedSimpArgs false
namespace Go.Proofs.Ytognnjhphnhbfaa.Hi
open Go.RowKit Go.Maps Go.Proofs.Ytognnjhphnhbfaa.Base Go.Proofs.Ytognnjhphnhbfaa.Rws Go.Proofs.Ytognnjhphnhbfaa.PHistCounts Go.Proofs.YtognnjhphnhbfaaW.PrintWords Go.Proofs.YtognnjhphnhbfaaW.PrintMore
attribute [local go_sem] max2_mx min2_mn max_two min_two max_three min_three max_four min_four

def to44 (r : Rw) : S44 := ⟨r.lw, r.hg, r.n⟩

theorem rs_C {w : World} {P : Nat → Prop} {A : Option Addr} {n c : Nat} {L : List Rw} (h : Rs w P (.slice A n c) L) (hl : L.length ≤ 100000) : n = L.length ∧ n ≤ c ∧ Kd.C k44 w A n (L.map to44) := by
  rcases h with ⟨h, h0, hx⟩ | ⟨q, o, c', cells, hv, hq, hh, h1, h2, h3, h4⟩
  · injection h with e1 e2 e3
    subst e1 e2 e3
    exact ⟨h0.symm, Nat.le_refl _, by rw [show L = [] from List.length_eq_zero_iff.1 h0]; exact Kd.C_nil _ _⟩
  · injection hv with e1 e2 e3
    subst e1 e2 e3
    refine ⟨rfl, h1, by simp, by omega, fun _ => ⟨_, rfl, fun j p hp => ?_⟩⟩
    rw [List.getElem?_map] at hp
    obtain ⟨x, hx, rfl⟩ := Option.map_eq_some_iff.1 hp
    refine ⟨_, rfl, k44_mk _ (to44 x), fun i u hu => ?_⟩
    have hi : i < 3 := (List.getElem?_eq_some_iff.1 hu).1
    rw [Addr.add_lit]
    exact cell_at hh _ (h4 _ u (by rw [show k44.sz = 3 from rfl, encR_at L j i x hx hi]; exact hu))

theorem same_rows {l : List Int} : ((rowsM (l.map idx)).map to44).map (fun x : S44 => (x.f0, x.f1, x.f2)) = ((keysM ((rising l).map idx)).map (rowR ((rising l).map idx))).map (fun x : S54 => (x.f0, x.f1, x.f2)) := by
  rw [← rowsM_perm (risen_perm l)]
  unfold rowsM
  rw [List.map_map, List.map_map, List.map_map]
  rfl

set_option maxHeartbeats 8000000 in
set_option maxRecDepth 100000 in
theorem counts_walk (l : List Int) (A : Option Addr) (c : Nat) (i p : Int) (w : World) (hl : Kd.C KI w A l.length l) (hc : l.length ≤ c) (hi : (Lit.int .i64 i).wf = true) :
    Calls Try.prog 5 #[.slice A l.length c, .int .i64 i, .int .i64 p] w fun e w' => e = .returned (.bool true) ∧ Below w.heap.size w w' := by
  have HA : Hid (∀ w, Calls Try.prog 14 #[] w fun e w' => e = .returned (.bool true) ∧ Only (fun _ => False) w w') := Lib.hid awake_p
  obtain ⟨n, hn⟩ : ∃ n, n = l.length := ⟨_, rfl⟩
  rw [← hn] at hl hc ⊢
  by_cases h100 : 100 < n
  · have hd : decide ((100 : Int) < (n : Int)) = true := decide_eq_true (by omega)
    clear hl hc hn hi h100
    go_enter Try.func5, Try.ntmps5
    go_wp2_with (go_at_call 14; refine (HA.out _).mono ?_; rintro e w1 ⟨rfl, o1⟩; have O1 := Lib.hid o1; clear o1)
    go_ret
    exact ⟨rfl, below_of O1.out⟩
  have hd : decide ((100 : Int) < (n : Int)) = false := decide_eq_false (by omega)
  have HN := Lib.hid hn
  have HL := Lib.hid hl
  have H100 : Hid (n ≤ 100) := Lib.hid (by omega)
  have HI := Lib.hid hi
  obtain ⟨g, hg⟩ : ∃ g, g = w.heap.size + 1 := ⟨_, rfl⟩
  obtain ⟨b, hb⟩ : ∃ b, b = w.heap.size := ⟨_, rfl⟩
  have HGB : Hid (w.heap.size ≤ g ∧ w.heap.size ≤ b) := Lib.hid (by omega)
  have HALL := Lib.hid (all_p l A n c w hn hl (by omega))
  rw [← hg, ← hb] at HALL
  have HRI : Hid (∀ w1, Only (fun _ => False) w w1 → Calls Try.prog 17 #[.slice A n c] w1 (PutPost w1 (rising l))) := Lib.hid (fun w1 ho => rising_p l A n c w1 hn (Kd.C_below hl (below_of ho)) (by omega))
  obtain ⟨Q, hQ⟩ : ∃ Q, Q = quantM (l.map idx) p := ⟨_, rfl⟩
  obtain ⟨K, hK⟩ : ∃ K, K = (l.map idx).count i := ⟨_, rfl⟩
  have hlen : (l.map idx).length = n := by rw [List.length_map, hn]
  have hrl : (rising l).length ≤ 1000 := by rw [rising_len]; omega
  have HQU : Hid (∀ w1, HS w1 g b (l.map idx) → Calls Try.prog 18 #[.pointer (some ⟨g, 0, none⟩), .int .i64 p] w1 fun e w' => e = .returned (.tuple #[.int .i64 Q.1, .bool Q.2]) ∧ HS w' g b (l.map idx) ∧ Only (fun k => k = b) w1 w') := Lib.hid (fun w1 h => by rw [hQ]; exact quant_p w1 h (by omega) p)
  have HQR : Hid (∀ A8 c8 w1, Kd.C KI w1 A8 n (rising l) → n ≤ c8 → Calls Try.prog 19 #[.slice A8 n c8, .int .i64 p] w1 fun e w' => e = .returned (.tuple #[.int .i64 Q.1, .bool Q.2]) ∧ Drawn0 w1 w') := Lib.hid (fun A8 c8 w1 h h2 => by
    have e : n = (rising l).length := by rw [rising_len, hn]
    rw [e] at h h2 ⊢
    refine hourglassref35_Quantile.calls 4000 A8 c8 (rising l) p Q.1 Q.2 w1 h h2 ?_
    rw [quant_f _ hrl (risen_sorted l), hQ, quantM_perm (risen_perm l)])
  have HLE : Hid (∀ w1, HS w1 g b (l.map idx) → Calls Try.prog 20 #[.pointer (some ⟨g, 0, none⟩)] w1 fun e w' => e = .returned (.int .i64 (n : Int)) ∧ w1 = w') := Lib.hid (fun w1 h => by have := len_p w1 h; rw [hlen] at this; exact this)
  have HCO : Hid (∀ w1, HS w1 g b (l.map idx) → Calls Try.prog 21 #[.pointer (some ⟨g, 0, none⟩), .int .i64 i] w1 fun e w' => e = .returned (.int .i64 (K : Int)) ∧ w1 = w') := Lib.hid (fun w1 h => by rw [hK]; exact count_p w1 h i hi)
  have HCR : Hid (∀ A8 c8 w1, Kd.C KI w1 A8 n (rising l) → n ≤ c8 → Calls Try.prog 22 #[.slice A8 n c8, .int .i64 i] w1 fun e w' => e = .returned (.int .i64 (K : Int)) ∧ Drawn0 w1 w') := Lib.hid (fun A8 c8 w1 h h2 => by
    have e : n = (rising l).length := by rw [rising_len, hn]
    rw [e] at h h2 ⊢
    refine hourglassref35_Count.calls 2000 A8 c8 (rising l) i K w1 h h2 ?_
    rw [count_f _ hrl i _ (by decide), hK, (risen_perm l).count_eq])
  have HRO : Hid (∀ w1, HS w1 g b (l.map idx) → Calls Try.prog 24 #[.pointer (some ⟨g, 0, none⟩)] w1 (RowsPost w1 g b (l.map idx))) := Lib.hid (fun w1 h => rows_p w1 h (by omega))
  have HRR : Hid (∀ A8 c8 w1, Kd.C KI w1 A8 n (rising l) → n ≤ c8 → Calls Try.prog 25 #[.slice A8 n c8] w1 fun e w' => ∃ v0_ : Value, e = .returned (v0_) ∧ Kd.R k54 54 w' w1.heap.size (fun _ => True) v0_ ((keysM ((rising l).map idx)).map (rowR ((rising l).map idx))) ∧ Below w1.heap.size w1 w') := Lib.hid (fun A8 c8 w1 h h2 => by
    have e : n = (rising l).length := by rw [rising_len, hn]
    rw [e] at h h2 ⊢
    exact hourglassref35_Rows.calls 4000 A8 c8 (rising l) _ w1 h h2 (rows_f _ hrl (risen_sorted l)))
  obtain ⟨m, hm⟩ : ∃ m, m = (rowsM (l.map idx)).length := ⟨_, rfl⟩
  have hmm : m ≤ 1000 := by
    have h1 := keys_len (l.map idx)
    rw [hm]
    unfold rowsM
    rw [List.length_map]
    omega
  have hm2 : ((keysM ((rising l).map idx)).map (rowR ((rising l).map idx))).length = m := by
    have := congrArg List.length (same_rows (l := l))
    simp only [List.length_map] at this
    rw [hm, List.length_map]
    exact this.symm
  have HSA : Hid (∀ A5 c5 A6 c6 w1, Kd.C k44 w1 A5 m ((rowsM (l.map idx)).map to44) → m ≤ c5 → Kd.C k54 w1 A6 m ((keysM ((rising l).map idx)).map (rowR ((rising l).map idx))) → m ≤ c6 → Calls Try.prog 23 #[.slice A5 m c5, .slice A6 m c6] w1 fun e w' => e = .returned (.bool true) ∧ Drawn0 w1 w') := Lib.hid (fun A5 c5 A6 c6 w1 h1 h2 h3 h4 => by
    have e1 : m = ((rowsM (l.map idx)).map to44).length := by rw [List.length_map, hm]
    have hcall := hourglasslaw35_rows.calls (((rowsM (l.map idx)).map to44).length + 1) A5 c5 ((rowsM (l.map idx)).map to44) A6 c6 ((keysM ((rising l).map idx)).map (rowR ((rising l).map idx))) true w1 (by rw [← e1]; exact h1) (by rw [← e1]; exact h2) (by rw [hm2]; exact h3) (by rw [hm2]; exact h4) (same_f _ _ same_rows (by omega))
    rw [← e1, hm2] at hcall
    exact hcall)
  have HM := Lib.hid hm
  have HMM := Lib.hid hmm
  have HM2 := Lib.hid hm2
  have HRL : Hid ((rising l).length = n) := Lib.hid (by rw [rising_len, hn])
  clear hl hc hn hi h100 hg hb hQ hK hlen hrl hm hmm hm2
  go_enter Try.func5, Try.ntmps5
  go_wp2_with fail
  refine HALL.out.mono ?_
  rintro e w1 ⟨rfl, h1, o1⟩
  have H1 := Lib.hid h1
  have O1 := Lib.hid o1
  clear h1 o1
  go_wp2_with fail
  refine (HRI.out _ O1.out).mono ?_
  rintro e w2 ⟨v2, rfl, k2, o2⟩
  have H2 := Lib.hid (H1.out.only o2 (fun h => h) (fun h => h))
  have O2 := Lib.hid (O1.out.trans o2)
  obtain ⟨A8, c8, rfl, _⟩ := k2.form
  rw [HRL.out] at k2
  have K2 := Lib.hid k2
  rw [HRL.out]
  clear k2 o2 H1
  go_wp2_with fail
  refine (HQU.out _ H2.out).mono ?_
  rintro e w3 ⟨rfl, h3, o3⟩
  have H3 := Lib.hid h3
  have O3 : Hid (Only (fun _ => False) w w3) := Lib.hid (O2.out.then_ o3 (fun k hk => .inr (by have := HGB.out; omega)))
  have K3 : Hid (Ks w3 (fun k => w1.heap.size ≤ k) (.slice A8 n c8) (rising l)) := Lib.hid (Row.only K2.out o3 (fun q hq hb => by
    obtain ⟨D, nn, ⟨es, clock, hm, _⟩, _⟩ := H2.out.map
    exact Row.neMap K2.out hm (hb ▸ hq)))
  clear h3 o3 K2 H2 O2
  go_wp2_with fail
  obtain ⟨kc1, kc2, kc3⟩ := ks_C K3.out (by rw [HRL.out]; have := H100.out; omega)
  refine (HQR.out A8 c8 _ kc3 kc2).mono ?_
  rintro e w4 ⟨rfl, d4⟩
  have o4 : Only (fun _ => False) w3 w4 := by
    obtain ⟨nd, rfl⟩ := d4.out
    exact (Only.refl _ _).drewN _
  have H4 := Lib.hid (H3.out.only o4 (fun h => h) (fun h => h))
  have O4 := Lib.hid (O3.out.trans o4)
  have K4 : Hid (Ks w4 (fun k => w1.heap.size ≤ k) (.slice A8 n c8) (rising l)) := Lib.hid (Row.only K3.out o4 (fun q hq hb => hb))
  clear kc1 kc2 kc3 d4 o4 H3 O3 K3
  go_wp2_with fail
  refine (HLE.out _ H4.out).mono ?_
  rintro e w5 ⟨rfl, rfl⟩
  go_wp2_with fail
  refine (HCO.out _ H4.out).mono ?_
  rintro e w5 ⟨rfl, rfl⟩
  go_wp2_with fail
  obtain ⟨kc1, kc2, kc3⟩ := ks_C K4.out (by rw [HRL.out]; have := H100.out; omega)
  refine (HCR.out A8 c8 _ kc3 kc2).mono ?_
  rintro e w5 ⟨rfl, d5⟩
  have o5 : Only (fun _ => False) w4 w5 := by
    obtain ⟨nd, rfl⟩ := d5.out
    exact (Only.refl _ _).drewN _
  have H5 := Lib.hid (H4.out.only o5 (fun h => h) (fun h => h))
  have O5 := Lib.hid (O4.out.trans o5)
  have K5 : Hid (Ks w5 (fun k => w1.heap.size ≤ k) (.slice A8 n c8) (rising l)) := Lib.hid (Row.only K4.out o5 (fun q hq hb => hb))
  clear kc1 kc2 kc3 d5 o5 H4 O4 K4
  go_wp2_with fail
  refine (HRO.out _ H5.out).mono ?_
  rintro e w6 ⟨v6, rfl, r6, h6, o6⟩
  obtain ⟨A6, n6, c6, rfl⟩ : ∃ A6 n6 c6, v6 = .slice A6 n6 c6 := by obtain ⟨A6, c6, h, _⟩ := r6.form; exact ⟨A6, _, c6, h⟩
  obtain ⟨rc1, rc2, rc3⟩ := rs_C r6 (by rw [← HM.out]; have := HMM.out; omega)
  rw [← HM.out] at rc1
  subst rc1
  have R6 := Lib.hid r6
  have H6 := Lib.hid h6
  have O6 : Hid (Only (fun _ => False) w w6) := Lib.hid (O5.out.then_ o6 (fun k hk => .inr (by have := HGB.out; omega)))
  have K6 : Hid (Ks w6 (fun k => w1.heap.size ≤ k) (.slice A8 n c8) (rising l)) := Lib.hid (Row.only K5.out o6 (fun q hq hb => by
    obtain ⟨D, nn, ⟨es, clock, hm, _⟩, _⟩ := H5.out.map
    exact Row.neMap K5.out hm (hb ▸ hq)))
  clear r6 h6 o6 K5 H5 O5 rc2 rc3
  go_wp2_with fail
  obtain ⟨kc1, kc2, kc3⟩ := ks_C K6.out (by rw [HRL.out]; have := H100.out; omega)
  refine (HRR.out A8 c8 _ kc3 kc2).mono ?_
  rintro e w7 ⟨v7, rfl, r7, b7⟩
  obtain ⟨A7, c7, hv, sc2, sc3⟩ := Kd.R_reads r7
  rw [HM2.out] at hv sc2 sc3
  subst hv
  have o7 : Only (fun _ => False) w6 w7 := Only.of_below b7
  obtain ⟨rc1, rc2, rc3⟩ := rs_C (Row.only R6.out o7 (fun q hq hb => hb)) (by rw [← HM.out]; have := HMM.out; omega)
  have O7 := Lib.hid (O6.out.trans o7)
  have S7 := Lib.hid (HSA.out A6 c6 A7 c7 w7 rc3 rc2 sc3 sc2)
  clear kc1 kc2 kc3 r7 b7 sc2 sc3 o7 rc1 rc2 rc3 R6 H6 O6 K6
  go_wp2_with fail
  refine S7.out.mono ?_
  rintro e w8 ⟨rfl, d8⟩
  have O8 : Hid (Only (fun _ => False) w w8) := Lib.hid (by
    obtain ⟨nd, rfl⟩ := d8.out
    exact O7.out.drewN _)
  clear S7 O7 d8
  go_wp2_with (go_at_call 14; refine (HA.out _).mono ?_; rintro e w9 ⟨rfl, o9⟩; have O9 := Lib.hid (O8.out.trans o9); clear o9 O8)
  go_ret
  exact ⟨rfl, below_of O9.out⟩

end Go.Proofs.Ytognnjhphnhbfaa.Hi

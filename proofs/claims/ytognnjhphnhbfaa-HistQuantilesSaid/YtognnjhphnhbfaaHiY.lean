/- Hist: a quantile and the spans. -/
import Derived.Test.YtognnjhphnhbfaaHiX
set_option linter.unusedVariables false
set_option linter.unusedSimpArgs false
namespace Go.Proofs.Ytognnjhphnhbfaa.Hi
open Go.RowKit Go.Maps Go.Proofs.Ytognnjhphnhbfaa.Base Go.Proofs.Ytognnjhphnhbfaa.Rws Go.Proofs.Ytognnjhphnhbfaa.PHistCounts Go.Proofs.YtognnjhphnhbfaaW.PrintWords Go.Proofs.YtognnjhphnhbfaaW.PrintMore
attribute [local go_sem] max2_mx min2_mn max_two min_two max_three min_three max_four min_four

theorem kOf_mono (n : Nat) {p q : Int} (h : p ≤ q) : kOf n p ≤ kOf n q := by
  have h1 : mn (mx p 0) 1000 ≤ mn (mx q 0) 1000 := by unfold mn mx; split <;> (try split) <;> (try split) <;> (try split) <;> omega
  unfold kOf
  have h3 : (n : Int) * mn (mx p 0) 1000 ≤ n * mn (mx q 0) 1000 := Int.mul_le_mul_of_nonneg_left h1 (by omega)
  generalize (n : Int) * mn (mx p 0) 1000 = x at *
  generalize (n : Int) * mn (mx q 0) 1000 = y at *
  unfold mx
  split <;> split <;> omega

theorem low_mono {i j : Int} (h0 : 0 ≤ i) (h : i ≤ j) (h1 : j ≤ 1472) : low i ≤ low j := by
  rw [low_in h0 (by omega), low_in (by omega) h1]
  have := lo_mono (show i.toNat ≤ j.toNat by omega)
  omega

theorem risen_at {l : List Int} {j : Nat} {x : Int} (h : (rising l)[j]? = some x) : 0 ≤ x ∧ x ≤ 1125899906842624 ∧ cl x = x := by
  have hm : x ∈ l.map cl := (rising_perm l).mem_iff.1 (List.mem_of_getElem? h)
  obtain ⟨u, _, rfl⟩ := List.mem_map.1 hm
  have := cl_bounds u
  exact ⟨this.1, this.2, cl_cl u⟩

theorem quant_one (l : List Int) (h0 : 0 < l.length) (h : l.length ≤ 100) (p : Int) :
    ∃ x, (rising l)[(kOf l.length p - 1).toNat]? = some x ∧ quantM (l.map idx) p = (low (idx x), true) := by
  have hlen : ((rising l).map idx).length = l.length := by rw [List.length_map, rising_len]
  obtain ⟨y, hy, hq⟩ := quant_sorted (risen_sorted l) (by omega) (by omega) p
  rw [hlen, List.getElem?_map] at hy
  obtain ⟨x, hx, rfl⟩ := Option.map_eq_some_iff.1 hy
  exact ⟨x, hx, by rw [← quantM_perm (risen_perm l)]; exact hq⟩

theorem quant_law (l : List Int) (h0 : 0 < l.length) (h : l.length ≤ 100) (p more : Int) :
    ∃ (j : Nat) (x q q2 : Int), j < l.length ∧ kOf l.length p = (j : Int) + 1 ∧ (rising l)[j]? = some x ∧ quantM (l.map idx) p = (q, true) ∧ quantM (l.map idx) more = (q2, true) ∧ 0 ≤ q ∧ q ≤ x ∧ x ≤ 1125899906842624 ∧ x - q ≤ q / 32 ∧ (p ≤ more → q ≤ q2) := by
  obtain ⟨x, hx, hq⟩ := quant_one l h0 h p
  obtain ⟨y, hy, hq2⟩ := quant_one l h0 h more
  have hk := kOf_bd l.length h0 (by omega) p
  have hk2 := kOf_bd l.length h0 (by omega) more
  obtain ⟨x0, x1, x2⟩ := risen_at hx
  obtain ⟨⟨b1, b2⟩, b3, b4, b5, _, _, _, b6, b7⟩ := bounds_facts x
  rw [x2] at b3 b4
  refine ⟨(kOf l.length p - 1).toNat, x, _, _, by omega, by omega, hx, hq, hq2, b6.1, b3, x1, by omega, fun hpm => ?_⟩
  have hm := kOf_mono l.length hpm
  have hle : x ≤ y := by
    have hs := rising_sorted l
    rw [List.pairwise_iff_getElem] at hs
    obtain ⟨hi, rfl⟩ := List.getElem?_eq_some_iff.1 hx
    obtain ⟨hj, rfl⟩ := List.getElem?_eq_some_iff.1 hy
    by_cases he : (kOf l.length p - 1).toNat = (kOf l.length more - 1).toNat
    · simp only [he]; exact Int.le_refl _
    · exact hs _ _ hi hj (by omega)
  exact low_mono (idx_bd x).1 (idx_mono hle) (idx_bd y).2

set_option maxHeartbeats 8000000 in
set_option maxRecDepth 100000 in
theorem quantiles_walk (l : List Int) (A : Option Addr) (c : Nat) (p more : Int) (w : World) (hl : Kd.C KI w A l.length l) (hc : l.length ≤ c) :
    Calls Try.prog 6 #[.slice A l.length c, .int .i64 p, .int .i64 more] w fun e w' => e = .returned (.bool true) ∧ Below w.heap.size w w' := by
  have HA : Hid (∀ w, Calls Try.prog 14 #[] w fun e w' => e = .returned (.bool true) ∧ Only (fun _ => False) w w') := Lib.hid awake_p
  obtain ⟨n, hn⟩ : ∃ n, n = l.length := ⟨_, rfl⟩
  rw [← hn] at hl hc ⊢
  by_cases h00 : n = 0
  · subst h00
    clear hl hc hn
    go_enter Try.func6, Try.ntmps6
    go_wp2_with (go_at_call 14; refine (HA.out _).mono ?_; rintro e w1 ⟨rfl, o1⟩; have O1 := Lib.hid o1; clear o1)
    go_ret
    exact ⟨rfl, below_of O1.out⟩
  have hd0 : ((n : Int) == (0 : Int)) = false := by simp; omega
  by_cases h100 : 100 < n
  · have hd : decide ((100 : Int) < (n : Int)) = true := decide_eq_true (by omega)
    clear hl hc hn h100 h00
    go_enter Try.func6, Try.ntmps6
    go_wp2_with (go_at_call 14; refine (HA.out _).mono ?_; rintro e w1 ⟨rfl, o1⟩; have O1 := Lib.hid o1; clear o1)
    go_ret
    exact ⟨rfl, below_of O1.out⟩
  have hd : decide ((100 : Int) < (n : Int)) = false := decide_eq_false (by omega)
  obtain ⟨j, x, q, q2, hj, hk, hx, hq, hq2, g0, g1, g2, g3, g4⟩ := quant_law l (by omega) (by omega) p more
  rw [← hn] at hj hk
  have HN := Lib.hid hn
  have HL := Lib.hid hl
  have H100 : Hid (n ≤ 100) := Lib.hid (by omega)
  obtain ⟨g, hg⟩ : ∃ g, g = w.heap.size + 1 := ⟨_, rfl⟩
  obtain ⟨b, hb⟩ : ∃ b, b = w.heap.size := ⟨_, rfl⟩
  have HGB : Hid (w.heap.size ≤ g ∧ w.heap.size ≤ b) := Lib.hid (by omega)
  have HALL := Lib.hid (all_p l A n c w hn hl (by omega))
  rw [← hg, ← hb] at HALL
  have HRI : Hid (∀ w1, Only (fun _ => False) w w1 → Calls Try.prog 17 #[.slice A n c] w1 (PutPost w1 (rising l))) := Lib.hid (fun w1 ho => rising_p l A n c w1 hn (Kd.C_below hl (below_of ho)) (by omega))
  have hlen : (l.map idx).length = n := by rw [List.length_map, hn]
  have HQU : Hid (∀ w1, HS w1 g b (l.map idx) → Calls Try.prog 18 #[.pointer (some ⟨g, 0, none⟩), .int .i64 p] w1 fun e w' => e = .returned (.tuple #[.int .i64 q, .bool true]) ∧ HS w' g b (l.map idx) ∧ Only (fun k => k = b) w1 w') := Lib.hid (fun w1 h => by have := quant_p w1 h (by omega) p; rw [hq] at this; exact this)
  have HQV : Hid (∀ w1, HS w1 g b (l.map idx) → Calls Try.prog 18 #[.pointer (some ⟨g, 0, none⟩), .int .i64 more] w1 fun e w' => e = .returned (.tuple #[.int .i64 q2, .bool true]) ∧ HS w' g b (l.map idx) ∧ Only (fun k => k = b) w1 w') := Lib.hid (fun w1 h => by have := quant_p w1 h (by omega) more; rw [hq2] at this; exact this)
  have HPL : Hid (∀ w1, Calls Try.prog 26 #[.int .i64 (n : Int), .int .i64 p] w1 fun e w' => e = .returned (.int .i64 ((j : Int) + 1)) ∧ Drawn0 w1 w') := Lib.hid (fun w1 => by
    rw [← hk]
    exact hourglassref35_Place.calls 20 (n : Int) p _ w1 (place_f n (by omega) p 20 (by omega)))
  have HX := Lib.hid hx
  have HJ : Hid (j < n) := Lib.hid hj
  have HRL : Hid ((rising l).length = n) := Lib.hid (by rw [rising_len, hn])
  have hw1 : wrap64 (j : Int) = (j : Int) := by unfold wrap64; omega
  have HW1 := Lib.hid hw1
  have HQX : Hid (q ≤ x) := Lib.hid g1
  have e1 : wrap64 (x - q) = x - q := by unfold wrap64; omega
  have e2 : Int.tdiv q 32 = q / 32 := Int.tdiv_eq_ediv_of_nonneg g0
  have e3 : wrap64 (q / 32) = q / 32 := by unfold wrap64; omega
  have HF : Hid (wrap64 (x - q) ≤ wrap64 (Int.tdiv q 32)) := Lib.hid (by rw [e1, e2, e3]; exact g3)
  have HG : Hid (p ≤ more → q ≤ q2) := Lib.hid g4
  clear hl hc hn h100 hg hb hlen h00 hj hk hx hq hq2 g0 g1 g2 g3 g4 hw1 e1 e2 e3
  go_enter Try.func6, Try.ntmps6
  go_wp2_with fail
  refine HALL.out.mono ?_
  rintro e w1 ⟨rfl, h1, o1⟩
  have H1 := Lib.hid h1
  have O1 := Lib.hid o1
  clear h1 o1
  go_wp2_with fail
  refine (HRI.out _ O1.out).mono ?_
  rintro e w2 ⟨v2, rfl, k2, o2⟩
  have H2 := Lib.hid (H1.out.only o2 (fun h => h) (fun h => h))
  have O2 := Lib.hid (O1.out.trans o2)
  obtain ⟨A8, c8, rfl, _⟩ := k2.form
  rw [HRL.out] at k2
  have K2 := Lib.hid k2
  rw [HRL.out]
  clear k2 o2 H1
  go_wp2_with fail
  refine (HQU.out _ H2.out).mono ?_
  rintro e w3 ⟨rfl, h3, o3⟩
  have H3 := Lib.hid h3
  have O3 : Hid (Only (fun _ => False) w w3) := Lib.hid (O2.out.then_ o3 (fun k hk => .inr (by have := HGB.out; omega)))
  have K3 : Hid (Ks w3 (fun k => w1.heap.size ≤ k) (.slice A8 n c8) (rising l)) := Lib.hid (Row.only K2.out o3 (fun q hq hb => by
    obtain ⟨D, nn, ⟨es, clock, hm, _⟩, _⟩ := H2.out.map
    exact Row.neMap K2.out hm (hb ▸ hq)))
  clear h3 o3 K2 H2 O2
  go_wp2_with fail
  refine (HPL.out _).mono ?_
  rintro e w4 ⟨rfl, d4⟩
  have o4 : Only (fun _ => False) w3 w4 := by
    obtain ⟨nd, rfl⟩ := d4.out
    exact (Only.refl _ _).drewN _
  have H4 := Lib.hid (H3.out.only o4 (fun h => h) (fun h => h))
  have O4 := Lib.hid (O3.out.trans o4)
  obtain ⟨kc1, kc2, kc3⟩ := ks_C (Row.only K3.out o4 (fun q hq hb => hb)) (by rw [HRL.out]; have := H100.out; omega)
  obtain ⟨ad, rfl, hx⟩ := Kd.at_int kc3 (j : Int) (by omega) (by have := HJ.out; omega)
  rw [rd_eq HX.out, Int.toNat_natCast] at hx
  have hlt' : (j : Int) < (n : Int) := by have := HJ.out; omega
  have h0' : (0 : Int) ≤ (j : Int) := by omega
  have hw1 := HW1.out
  clear kc1 kc2 kc3 d4 o4 H3 O3 K3
  go_wp2_with fail
  refine (HQV.out _ H4.out).mono ?_
  rintro e w5 ⟨rfl, h5, o5⟩
  have O5 : Hid (Only (fun _ => False) w w5) := Lib.hid (O4.out.then_ o5 (fun k hk => .inr (by have := HGB.out; omega)))
  have hq1 : decide (q ≤ x) = true := decide_eq_true HQX.out
  have hq3 : decide (wrap64 (x - q) ≤ wrap64 (Int.tdiv q 32)) = true := decide_eq_true HF.out
  clear h5 o5 H4 O4
  by_cases hmp : more < p
  · have hm : decide (more < p) = true := decide_eq_true hmp
    clear hmp
    go_wp2_with (go_at_call 14; refine (HA.out _).mono ?_; rintro e w9 ⟨rfl, o9⟩; have O9 := Lib.hid (O5.out.trans o9); clear o9 O5)
    go_ret
    exact ⟨rfl, below_of O9.out⟩
  · have hm : decide (more < p) = false := decide_eq_false hmp
    have hg : decide (q ≤ q2) = true := decide_eq_true (HG.out (by omega))
    clear hmp
    go_wp2_with (go_at_call 14; refine (HA.out _).mono ?_; rintro e w9 ⟨rfl, o9⟩; have O9 := Lib.hid (O5.out.trans o9); clear o9 O5)
    go_ret
    exact ⟨rfl, below_of O9.out⟩

end Go.Proofs.Ytognnjhphnhbfaa.Hi

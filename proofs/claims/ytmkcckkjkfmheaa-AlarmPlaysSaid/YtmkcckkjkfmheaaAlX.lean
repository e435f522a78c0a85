/- Alarm: awake. -/
import Derived.Test.YtmkcckkjkfmheaaAlW
import Derived.Test.YtmkcckkjkfmheaaAlZ
set_option linter.unusedVariables false
set_option linter.unusedSimpArgs false
set_option maxRecDepth 100000
namespace Go.Proofs.Ytmkcckkjkfmheaa.Al
open Go.RowKit Go.Maps Go.Proofs.Ytmkcckkjkfmheaa.Base Go.Proofs.Ytmkcckkjkfmheaa.Rws Go.Proofs.Ytmkcckkjkfmheaa.Wh Go.Proofs.YtmkcckkjkfmheaaW.PrintWords Go.Proofs.YtmkcckkjkfmheaaW.PrintMore
attribute [local go_sem] max2_mx min2_mn max_two min_two max_three min_three max_four min_four

def nm1 : K5 := ⟨0, 0, 0, 0, 1⟩

theorem nm1_wf : nm1.wf := by unfold K5.wf nm1; exact ⟨rfl, rfl, rfl, rfl, rfl⟩

/-- The cells of a row of names. -/
theorem Ns.at_ {w : World} {P : Nat → Prop} {q o c n : Nat} {L : List K5} (h : Ns w P (.slice (some ⟨q, o, none⟩) n c) L) (hn : n = L.length) {i : Nat} {k : K5} (hk : L[i]? = some k) :
    w.cell? ⟨q, o + (i * 5 + 0), none⟩ = some (.int .i64 k.a) ∧ w.cell? ⟨q, o + (i * 5 + 1), none⟩ = some (.int .i64 k.b) ∧ w.cell? ⟨q, o + (i * 5 + 2), none⟩ = some (.int .i64 k.c) ∧ w.cell? ⟨q, o + (i * 5 + 3), none⟩ = some (.int .i64 k.d) ∧ w.cell? ⟨q, o + (i * 5 + 4), none⟩ = some (.int .i64 k.e) := by
  unfold Ns at h
  subst hn
  exact ⟨Row.cell h _ (encN_at L i 0 k hk (by decide)), Row.cell h _ (encN_at L i 1 k hk (by decide)), Row.cell h _ (encN_at L i 2 k hk (by decide)), Row.cell h _ (encN_at L i 3 k hk (by decide)), Row.cell h _ (encN_at L i 4 k hk (by decide))⟩

theorem cl_in {x : Int} (h : 0 ≤ x) (h1 : x ≤ 1125899906842624) : cl x = x := cl_same x h h1

theorem clg2 : clg 2 = 2 := rfl
theorem pw2 : pw 2 = 4 := rfl

theorem setA_nil (k : K5) (t h : Int) : setA [] k t h = [⟨k, t, h⟩] := rfl

theorem sortN_nil : sortN [] = [] := (sortN_of (K := []) (K' := []) (.refl _) .nil).symm
theorem sortN_one (k : K5) : sortN [k] = [k] := (sortN_of (K := [k]) (K' := [k]) (.refl _) (List.pairwise_singleton _ _)).symm

theorem Ns.none_ {w : World} {P : Nat → Prop} {v : Value} (h : Ns w P v []) : ∃ A c, v = .slice A (0 : Nat) c := by
  obtain ⟨A, c, hv, _⟩ := Row.form h
  exact ⟨A, c, hv⟩

theorem Ns.one {w : World} {P : Nat → Prop} {v : Value} {k : K5} (h : Ns w P v [k]) : ∃ q o c, v = .slice (some ⟨q, o, none⟩) 1 c ∧ w.cell? ⟨q, o, none⟩ = some (.int .i64 k.a) ∧ w.cell? ⟨q, o + 1, none⟩ = some (.int .i64 k.b) ∧ w.cell? ⟨q, o + 2, none⟩ = some (.int .i64 k.c) ∧ w.cell? ⟨q, o + 3, none⟩ = some (.int .i64 k.d) ∧ w.cell? ⟨q, o + 4, none⟩ = some (.int .i64 k.e) := by
  obtain ⟨q, o, c, rfl, _⟩ := Row.some_ h (Nat.zero_lt_one)
  exact ⟨q, o, c, rfl, Row.cell h 0 rfl, Row.cell h 1 rfl, Row.cell h 2 rfl, Row.cell h 3 rfl, Row.cell h 4 rfl⟩

set_option maxHeartbeats 8000000 in
theorem awake_p (w : World) : Calls Try.prog 16 #[] w fun e w' => e = .returned (.bool true) ∧ Only (fun _ => False) w w' := by
  have HN := Lib.hid (new_a 2 w)
  rw [clg2] at HN
  go_enter Try.func16, Try.ntmps16
  go_upto_region 2 with (go_at_call 8; refine HN.out.mono ?_; rintro e w1 ⟨p, F, rfl, hA1, hf1, ho1⟩; have HA1 := Lib.hid hA1; have HF1 := Lib.hid hf1; have HO1 := Lib.hid ho1; clear hA1 hf1 ho1)
  obtain ⟨wA, hwA⟩ : ∃ wA, wA = w1.alloc (boxN nm1) := ⟨_, rfl⟩
  obtain ⟨N, hN⟩ : ∃ N, N = w1.heap.size := ⟨_, rfl⟩
  have hbA : wA.heap[N]? = some (boxN nm1) := by rw [hwA, hN]; exact heap_alloc_new w1 _
  have hoA : Only (fun _ => False) w1 wA := by rw [hwA]; exact (Only.refl _ w1).alloc _
  have hA2 := HA1.out.only hoA (fun _ _ h => h)
  have HS := Lib.hid (set_a hA2 nm1 nm1_wf 5 (by decide) (by decide))
  rw [show cl 5 = 5 from rfl, show (0 : Int) + 1 = 1 from rfl, setA_nil] at HS
  have HBA := Lib.hid hbA
  have HOA := Lib.hid hoA
  have HNS : Hid (w.heap.size ≤ N ∧ ∀ k, F k → k < N) := Lib.hid ⟨by rw [hN]; exact HO1.out.size, fun k hk => by rw [hN]; exact HA1.out.flt k hk⟩
  have y0 : wA.cell? ⟨N, 0, none⟩ = some (.int .i64 0) := cell_at hbA 0 rfl
  have y1 : wA.cell? ⟨N, 1, none⟩ = some (.int .i64 0) := cell_at hbA 1 rfl
  have y2 : wA.cell? ⟨N, 2, none⟩ = some (.int .i64 0) := cell_at hbA 2 rfl
  have y3 : wA.cell? ⟨N, 3, none⟩ = some (.int .i64 0) := cell_at hbA 3 rfl
  have y4 : wA.cell? ⟨N, 4, none⟩ = some (.int .i64 1) := cell_at hbA 4 rfl
  unfold boxN nm1 at hwA
  simp only at hwA
  clear hbA hoA hA2 HN
  go_upto_region 3 with fail
  rw [← hwA, ← hN]
  clear hwA hN
  go_upto_region 4 with (go_at_call 10; refine HS.out.mono ?_; rintro e w2 ⟨rfl, F2, hA2, hf2, ho2⟩; have HA2 := Lib.hid hA2; have HF2 := Lib.hid hf2; have HO2 := Lib.hid ho2; clear hA2 hf2 ho2)
  have hN2 : ¬ F2 N := fun h => (HF2.out N h).elim (fun h => by have := HNS.out.2 N h; omega) (fun h => by have := blk_lt HBA.out; omega)
  have hB2 := HO2.out.blk HBA.out (fun h => by have := HNS.out.2 N h; omega)
  have HB2 := Lib.hid hB2
  have HN2 := Lib.hid hN2
  have HD := Lib.hid (due_a HA2.out 7 (e := 1) (by decide +kernel))
  have e1 : dueA 2 1 [⟨nm1, 5, 1⟩] = [] := by decide +kernel
  have e2 : leftA 2 1 [⟨nm1, 5, 1⟩] = [⟨nm1, 5, 1⟩] := by decide +kernel
  unfold DueP at HD
  rw [e1, e2, List.map_nil, sortN_nil] at HD
  clear e1 e2 hB2 hN2 y0 y1 y2 y3 y4 HS
  go_wp2_with fail
  go_at_call 13
  refine HD.out.mono ?_
  rintro e w3 ⟨v3, F3, rfl, ht3, hA3, hf3, ho3⟩
  have HB3 := Lib.hid (ho3.blk HB2.out HN2.out)
  have HN3 : Hid (¬ F3 N) := Lib.hid (fun h => (hf3 N h).elim HN2.out (fun h => by have := blk_lt HB2.out; omega))
  have HD4 := Lib.hid (due_a hA3 8 (e := 2) (by decide +kernel))
  have e1 : dueA 2 2 [⟨nm1, 5, 1⟩] = [⟨nm1, 5, 1⟩] := by decide +kernel
  have e2 : leftA 2 2 [⟨nm1, 5, 1⟩] = [] := by decide +kernel
  unfold DueP at HD4
  rw [e1, e2, List.map_cons, List.map_nil, sortN_one] at HD4
  obtain ⟨A3, c3, rfl⟩ := ht3.none_
  have HF3 := Lib.hid hf3
  have HO3 := Lib.hid ho3
  clear e1 e2 ht3 hA3 hf3 ho3 HD
  go_upto_region 5 with (go_at_call 13; refine HD4.out.mono ?_; rintro e w4 ⟨v4, F4, rfl, ht4, hA4, hf4, ho4⟩; have HT4 := Lib.hid ht4; have HA4 := Lib.hid hA4; have HO4 := Lib.hid ho4; clear ht4 hA4 hf4 ho4)
  obtain ⟨q, o, c, rfl, x0, x1, x2, x3, x4⟩ := HT4.out.one
  have hB4 := HO4.out.blk HB3.out HN3.out
  have y0 : w4.cell? ⟨N, 0, none⟩ = some (.int .i64 0) := cell_at hB4 0 rfl
  have y1 : w4.cell? ⟨N, 1, none⟩ = some (.int .i64 0) := cell_at hB4 1 rfl
  have y2 : w4.cell? ⟨N, 2, none⟩ = some (.int .i64 0) := cell_at hB4 2 rfl
  have y3 : w4.cell? ⟨N, 3, none⟩ = some (.int .i64 0) := cell_at hB4 3 rfl
  have y4 : w4.cell? ⟨N, 4, none⟩ = some (.int .i64 1) := cell_at hB4 4 rfl
  have HG : Hid (∀ W, Only (fun _ => False) w4 W → Calls Try.prog 9 #[.pointer (some ⟨p, 0, none⟩)] W fun e w' => e = .returned (.int .i64 4) ∧ w' = W) := Lib.hid (fun W hW => (HA4.out.only hW (fun _ _ h => h)).grain.mono fun _ _ h => ⟨h.1, h.2.symm⟩)
  have HL : Hid (∀ W, Only (fun _ => False) w4 W → Calls Try.prog 12 #[.pointer (some ⟨p, 0, none⟩)] W fun e w' => e = .returned (.int .i64 0) ∧ w' = W) := Lib.hid (fun W hW => (HA4.out.only hW (fun _ _ h => h)).len.mono fun _ _ h => ⟨h.1, h.2.symm⟩)
  have HOW : Hid (Only (fun _ => False) w w4) := Lib.hid (by
    have h0 := HNS.out.1
    have g1 : Only (fun _ => False) w wA := HO1.out.trans HOA.out
    have hs1 := g1.size
    have g2 : Only (fun _ => False) w w2 := g1.then_ HO2.out (fun k hk => .inr (HF1.out k hk))
    have hs2 := g2.size
    have q2 : ∀ k, F2 k → w.heap.size ≤ k := fun k hk => (HF2.out k hk).elim (HF1.out k) (fun h => by omega)
    have g3 : Only (fun _ => False) w w3 := g2.then_ HO3.out (fun k hk => .inr (q2 k hk))
    have q3 : ∀ k, F3 k → w.heap.size ≤ k := fun k hk => (HF3.out k hk).elim (q2 k) (fun h => by omega)
    exact g3.then_ HO4.out (fun k hk => .inr (q3 k hk)))
  unfold nm1 at x0 x1 x2 x3 x4
  simp only at x0 x1 x2 x3 x4
  clear hB4
  go_quiet (first | (go_at_call 9; exact Calls.quiet_of_same (HG.out _ ((Only.refl _ _).drewN _))) | (go_at_call 12; exact Calls.quiet_of_same (HL.out _ ((Only.refl _ _).drewN _))))
  go_wp2
  go_ret
  exact ⟨rfl, HOW.out.drewN _⟩
end Go.Proofs.Ytmkcckkjkfmheaa.Al

/- QuotaWaits: the walk of the law over the contracts: who waits as long as was said is given one, and not earlier; Left tells how often it is given at once. -/
import Derived.Test.YthleomamdaijdaaQuoB
set_option linter.unusedVariables false
set_option linter.unusedSimpArgs false
namespace Go.Proofs.Ythleomamdaijdaa.Quo
open Go.RowKit Go.Proofs.Ythleomamdaijdaa.Base Go.Proofs.YthleomamdaijdaaW.PrintWords Go.Proofs.YthleomamdaijdaaW.PrintMore
attribute [local go_sem] max2_mx min2_mn max_two min_two max_three min_three max_four min_four

theorem ovn_at {n T : Int} (h0 : 0 ≤ T) (h1 : T ≤ 1125899906842624) (h : n ≤ T) : ovn n T = T := by
  unfold ovn; rw [cl_same T h0 h1]; rcases mx_cases n T with h | h <;> omega

/-- One more at a time T at or behind now. -/
theorem take_at {p b n m T : Int} (hi : Inv p b n m) (h0 : 0 ≤ T) (h1 : T ≤ 1125899906842624) (hn : n ≤ T) :
    (mx m T + p - T ≤ b * p → tkb p b n m T = true ∧ tkw p b n m T = 0 ∧ ovn n T = T ∧ tkm p b n m T = mx m T + p ∧ Inv p b T (mx m T + p)) ∧
    (¬ mx m T + p - T ≤ b * p → tkb p b n m T = false ∧ tkw p b n m T = mx m T + p - T - b * p ∧ ovn n T = T ∧ tkm p b n m T = m ∧ Inv p b T m) := by
  have e := ovn_at h0 h1 hn
  obtain ⟨f1, f2, f3, f4⟩ := tk_facts hi T
  unfold far at f1 f3
  rw [e] at f1 f2 f3 f4
  constructor
  · intro h
    have hb := f1.2 h
    obtain ⟨g1, g2⟩ := f2 hb
    rw [g2] at f4
    exact ⟨hb, g1, e, g2, f4⟩
  · intro h
    have hb : tkb p b n m T = false := Bool.eq_false_iff.2 (fun hh => h (f1.1 hh))
    obtain ⟨g1, g2⟩ := f3 hb
    rw [g2] at f4
    exact ⟨hb, g1, e, g2, f4⟩

theorem clamp_rk (a : Int) (w : World) : Calls Try.prog 24 #[.int .i64 a] w fun e w' => e = .returned (.int .i64 (cl a)) ∧ w = w' :=
  (clamp_r a w).mono fun _ _ ⟨h, k⟩ => ⟨h, k.symm⟩

set_option maxHeartbeats 8000000 in
set_option maxRecDepth 100000 in
theorem waits_yes (p b : Int) (A : Option Addr) (len cap : Nat) (now early : Int) (xs : List Int) (w : World) (hp1 : 1 ≤ p) (hp2 : p ≤ 1000000) (hb1 : 1 ≤ b) (hb2 : b ≤ 1000)
    (he0 : -9223372036854775808 ≤ early) (he1 : early ≤ 9223372036854775807)
    (hr : Kd.C (Kd.int .i64) w A len xs) (hl : xs.length = len) (hreach : len * 8 ≤ 140737488351232) :
    Calls Try.prog 12 #[.int .i64 p, .int .i64 b, .slice A len cap, .int .i64 now, .int .i64 early] w fun e w' => e = .returned (.bool true) ∧ Below w.heap.size w w' := by
  have HR := Lib.hid hr
  have HI0 := Lib.hid (inv_new hp1 hp2 hb1 hb2)
  clear hr
  go_enter Try.func12, Try.ntmps12
  go_wp2_with (first | (go_at_call 36; refine (new_ok p b _ ⟨hp1, hp2⟩ ⟨hb1, hb2⟩).mono ?_; rintro e w1 ⟨rfl, hq1, ho1⟩; have HQ1 := Lib.hid hq1; have HO1 := Lib.hid ho1; clear hq1 ho1) | (go_at_call 24; refine (clamp_rk _ _).mono ?_; rintro e w' ⟨rfl, rfl⟩))
  obtain ⟨g, hg⟩ : ∃ g, g = w.heap.size := ⟨_, rfl⟩
  rw [← hg]
  have HG := Lib.hid hg
  have HQ1' : Hid (Q57 w1 g p b 0 0) := Lib.hid (by rw [hg]; exact HQ1.out)
  have HB1 : Hid (Below w.heap.size w w1) := Lib.hid (HO1.out.below (Below.refl _ _) (Nat.le_refl _) (fun _ h => h.elim))
  have hgw : w.heap.size ≤ g := by omega
  clear hg HQ1 HO1
  go_loopw [13, 14] (fun vt vi wr => ∃ (n m i T : Int), vt = .int .i64 T ∧ vi = .int .i64 i ∧ 0 ≤ i ∧ i ≤ 40 ∧ 0 ≤ T ∧ T ≤ 1125899906842624 ∧ n ≤ T ∧ Hid (Inv p b n m) ∧ Hid (Q57 wr g p b n m) ∧ Hid (Below w.heap.size w wr)) (fun _ vi _ => (40 - intOf vi).toNat)
  case atStart => exact ⟨0, 0, 0, cl now, rfl, rfl, by omega, by omega, (cl_bounds now).1, (cl_bounds now).2, (cl_bounds now).1, HI0, HQ1', HB1⟩
  case round =>
    obtain ⟨n, m, i, T, rfl, rfl, hi0, hi1, hT0, hT1, hnT, HI, HQ, HB⟩ := hrel
    have hgo : (i < (len : Int) ∧ i < 40) ∨ (i < (len : Int) ∧ ¬ i < 40) ∨ ¬ i < (len : Int) := by omega
    rcases hgo with ⟨hlt, h60⟩ | ⟨hlt, h60⟩ | hlt
    · obtain ⟨ad, hA, hcell⟩ := Kd.at_int HR.out i hi0 hlt
      cases hA
      obtain ⟨x, hx⟩ : ∃ x, x = rd xs i := ⟨_, rfl⟩
      rw [← hx] at hcell
      clear hx
      have HC := Lib.hid hcell
      clear hcell
      have hc := (HB.out.cell (World.block_lt_of_cell? w _ HC.out)).trans HC.out
      have HI2 := Lib.hid (tk_facts HI.out x).2.2.2
      have hx0 := cl_bounds x
      have hcx : mx T (cl x) = T ∧ cl x ≤ T ∨ mx T (cl x) = cl x ∧ T < cl x := mx_cases T (cl x)
      have hcn : ovn n x = n ∧ cl x ≤ n ∨ ovn n x = cl x ∧ n < cl x := mx_cases n (cl x)
      have hT0' : 0 ≤ mx T (cl x) := by omega
      have hT1' : mx T (cl x) ≤ 1125899906842624 := by omega
      have hT2' : ovn n x ≤ mx T (cl x) := by omega
      clear hcx hcn hx0
      go_wp2_with (first | (go_at_call 24; refine (clamp_rk _ _).mono ?_; rintro e w' ⟨rfl, rfl⟩) | (go_at_call 38; refine (take_p g p b n m x _ HQ.out).mono ?_; rintro e w2 ⟨rfl, hq2, ho2⟩; have HQ2 := Lib.hid hq2; have HB2 := Lib.hid (ho2.below HB.out (HB.out.size) (fun _ h => by omega)); have hc2 := (HB2.out.cell (World.block_lt_of_cell? w _ HC.out)).trans HC.out; clear hq2 ho2))
      go_roundw
      case rel => exact ⟨ovn n x, tkm p b n m x, i + 1, mx T (cl x), rfl, by go_num, by omega, by omega, hT0', hT1', hT2', HI2, HQ2, HB2⟩
      case measure => simp [intOf]; omega
    all_goals
      by_cases hbig : 1000000000000000 < T
      · go_wp2_with (go_at_call 40; refine (awake_p _).mono ?_; rintro e w5 ⟨rfl, ho5⟩; have HO5 := Lib.hid ho5; clear ho5)
        go_ret
        exact ⟨rfl, HO5.out.below HB.out (HB.out.size) (fun _ h => h.elim)⟩
      · have hoT := ovn_at hT0 hT1 hnT
        have hcb := (lf_bounds HI.out T).2
        have HIT : Hid (Inv p b T m) := Lib.hid ⟨hp1, hp2, hb1, hb2, hT0, hT1, HI.out.m1, by have := HI.out.m2; omega⟩
        have HF := Lib.hid (fun (j : Nat) => fits HI.out T j)
        obtain ⟨c, hc⟩ : ∃ c : Nat, lf p b n m T = (c : Int) := ⟨(lf p b n m T).toNat, by omega⟩
        have HLf := Lib.hid (fun (w : World) (hq : Q57 w g p b n m) => left_eq g p b n m T c T HI.out hc hoT w hq)
        have HF2 : Hid (∀ j : Nat, mx m T + j * p + p - T ≤ b * p ↔ j < c) := Lib.hid (fun j => by have h := HF.out j; rw [hoT, hc] at h; rw [h]; omega)
        rw [hc] at hcb
        have hc0 : (c : Int) ≤ 1000 := by omega
        clear hoT hc hcb HF
        go_wp2_with (go_at_call 39; refine (HLf.out _ HQ.out).mono ?_; rintro e w2 ⟨rfl, hq2, ho2⟩; have HQ2 := Lib.hid hq2; have HB2 := Lib.hid (ho2.below HB.out (HB.out.size) (fun _ h => by omega)); clear hq2 ho2)
        go_loopw [16] (fun vi wr2 => ∃ (j : Nat) (mj : Int), vi = .int .i64 j ∧ j ≤ c ∧ Hid (mx mj T = mx m T + j * p) ∧ Hid (Inv p b T mj) ∧ Hid (Q57 wr2 g p b T mj) ∧ Hid (Below w.heap.size w wr2)) (fun vi _ => c - (intOf vi).toNat)
        case atStart => exact ⟨0, m, rfl, by omega, Lib.hid (by simp), HIT, HQ2, HB2⟩
        case round =>
          obtain ⟨j, mj, rfl, hj, HM, HIj, HQj, HBj⟩ := hrel
          by_cases hjc : j < c
          · have hfit := (HF2.out j).2 hjc
            rw [← HM.out] at hfit
            obtain ⟨t1, t2, t3, t4, t5⟩ := (take_at HIj.out hT0 hT1 (Int.le_refl T)).1 hfit
            have HT := Lib.hid (fun (w : World) (hq : Q57 w g p b T mj) => take_eq g p b T mj T true 0 T (mx mj T + p) t1 t2 t3 t4 w hq)
            have HI5 := Lib.hid t5
            have HM5 : Hid (mx (mx mj T + p) T = mx m T + ((j + 1 : Nat) : Int) * p) := Lib.hid (by
              have h1 := HM.out
              have h2 : mx mj T = mj ∧ T ≤ mj ∨ mx mj T = T ∧ mj < T := mx_cases mj T
              have h3 : mx (mx mj T + p) T = mx mj T + p ∧ T ≤ mx mj T + p ∨ mx (mx mj T + p) T = T ∧ mx mj T + p < T := mx_cases _ _
              have h4 : ((j + 1 : Nat) : Int) * p = j * p + p := by rw [Int.natCast_add, Int.add_mul]; simp
              rw [h4]; omega)
            have hji : (j : Int) < (c : Int) := by omega
            clear hfit t1 t2 t3 t4 t5
            go_wp2_with (go_at_call 38; refine (HT.out _ HQj.out).mono ?_; rintro e w3 ⟨rfl, hq3, ho3⟩; have HQ3 := Lib.hid hq3; have HB3 := Lib.hid (ho3.below HBj.out (HBj.out.size) (fun _ h => by omega)); clear hq3 ho3)
            go_roundw
            case rel => exact ⟨j + 1, mx mj T + p, by go_num, by omega, HM5, HI5, HQ3, HB3⟩
            case measure => simp [intOf]; omega
          · obtain rfl : j = c := by omega
            have hfit : ¬ mx mj T + p - T ≤ b * p := by rw [HM.out]; intro h; exact hjc ((HF2.out j).1 h)
            obtain ⟨t1, t2, t3, t4, t5⟩ := (take_at HIj.out hT0 hT1 (Int.le_refl T)).2 hfit
            obtain ⟨M, hM⟩ : ∃ M, M = mx mj T := ⟨_, rfl⟩
            have hMc : M = mj ∧ T ≤ mj ∨ M = T ∧ mj < T := by rw [hM]; exact mx_cases mj T
            obtain ⟨w0, hw0⟩ : ∃ w0, w0 = M + p - T - b * p := ⟨_, rfl⟩
            rw [← hM] at hfit t2
            rw [← hw0] at t2
            have hbp := bp_bounds hp1 hp2 hb1 hb2
            have hw1 : 1 ≤ w0 := by omega
            have hw2 : w0 ≤ p := by
              by_cases hj0 : j = 0
              · subst hj0
                have h1 := HM.out
                rw [← hM] at h1
                have h2 : mx m T = m ∧ T ≤ m ∨ mx m T = T ∧ m < T := mx_cases m T
                have := HIT.out.m2
                simp at h1; omega
              · have h1 := (HF2.out (j - 1)).2 (by omega)
                have h2 := HM.out
                rw [← hM] at h2
                have h3 : ((j : Nat) : Int) * p = ((j - 1 : Nat) : Int) * p + p := by
                  rw [show ((j : Nat) : Int) = ((j - 1 : Nat) : Int) + 1 by omega, Int.add_mul]; simp
                rw [h3] at h2; omega
            have HT3 := Lib.hid (fun (w : World) (hq : Q57 w g p b T mj) => take_eq g p b T mj T false w0 T mj t1 t2 t3 t4 w hq)
            have HT5 : Hid (∀ (n : Int) (w : World), Inv p b n mj → n ≤ T + w0 → Q57 w g p b n mj → ∃ n' m', Calls Try.prog 38 #[.pointer (some ⟨g, 0, none⟩), .int .i64 (T + w0)] w fun e w' => e = .returned (.tuple #[.bool true, .int .i64 0]) ∧ Q57 w' g p b n' m' ∧ Only (fun i => i = g) w w') := Lib.hid (fun n w hn hle hq => by
              have hh : mx mj (T + w0) = mj ∧ T + w0 ≤ mj ∨ mx mj (T + w0) = T + w0 ∧ mj < T + w0 := mx_cases _ _
              obtain ⟨s1, s2, s3, s4, s5⟩ := (take_at hn (show 0 ≤ T + w0 by omega) (show T + w0 ≤ 1125899906842624 by omega) hle).1 (by omega)
              exact ⟨_, _, take_eq g p b n mj (T + w0) true 0 _ _ s1 s2 rfl rfl w hq⟩)
            have HT4 : Hid (0 ≤ early → early < w0 → Inv p b (T + early) mj ∧ ∀ (w : World), Q57 w g p b T mj → Calls Try.prog 38 #[.pointer (some ⟨g, 0, none⟩), .int .i64 (T + early)] w fun e w' => e = .returned (.tuple #[.bool false, .int .i64 (w0 - early)]) ∧ Q57 w' g p b (T + early) mj ∧ Only (fun i => i = g) w w') := Lib.hid (fun h0 h1 => by
              have hh : mx mj (T + early) = mj ∧ T + early ≤ mj ∨ mx mj (T + early) = T + early ∧ mj < T + early := mx_cases _ _
              have hmx : mx mj (T + early) = M := by omega
              obtain ⟨s1, s2, s3, s4, s5⟩ := (take_at HIj.out (show 0 ≤ T + early by omega) (show T + early ≤ 1125899906842624 by omega) (show T ≤ T + early by omega)).2 (by omega)
              rw [hmx] at s2
              exact ⟨s5, fun w hq => take_eq g p b T mj (T + early) false (w0 - early) (T + early) mj s1 (by rw [s2]; omega) s3 s4 w hq⟩)
            clear hfit t1 t2 t3 t4 t5 hM hMc hw0 hjc hbp
            have hEa : early < 0 ∨ (0 ≤ early ∧ early < w0) ∨ (0 ≤ early ∧ ¬ early < w0) := by omega
            rcases hEa with hea | ⟨hea, heb⟩ | ⟨hea, heb⟩
            · obtain ⟨n5, m5, hk⟩ := HT5.out T wr HIj.out (by omega) HQj.out
              clear hk
              go_wp2_with fail
              refine (HT3.out _ HQj.out).mono ?_
              rintro e w3 ⟨rfl, hq3, ho3⟩
              have HQ3 := Lib.hid hq3
              have HB3 := Lib.hid (ho3.below HBj.out (HBj.out.size) (fun _ h => by omega))
              clear hq3 ho3
              obtain ⟨n6, m6, hk6⟩ := HT5.out T w3 HIj.out (by omega) HQ3.out
              have HK6 := Lib.hid hk6
              clear hk6
              go_wp2_with fail
              refine HK6.out.mono ?_
              rintro e w4 ⟨rfl, hq4, ho4⟩
              have HB4 := Lib.hid (ho4.below HB3.out (HB3.out.size) (fun _ h => by omega))
              clear hq4 ho4
              go_wp2_with (go_at_call 40; refine (awake_p _).mono ?_; rintro e w5 ⟨rfl, ho5⟩; have HO5 := Lib.hid ho5; clear ho5)
              go_ret
              exact ⟨rfl, HO5.out.below HB4.out (HB4.out.size) (fun _ h => h.elim)⟩
            · obtain ⟨i4, k4⟩ := HT4.out hea heb
              have HI4 := Lib.hid i4
              have HK4 := Lib.hid k4
              clear i4 k4
              go_wp2_with fail
              refine (HT3.out _ HQj.out).mono ?_
              rintro e w3 ⟨rfl, hq3, ho3⟩
              have HQ3 := Lib.hid hq3
              have HB3 := Lib.hid (ho3.below HBj.out (HBj.out.size) (fun _ h => by omega))
              clear hq3 ho3
              go_wp2_with fail
              refine (HK4.out _ HQ3.out).mono ?_
              rintro e w6 ⟨rfl, hq6, ho6⟩
              have HQ6 := Lib.hid hq6
              have HB6 := Lib.hid (ho6.below HB3.out (HB3.out.size) (fun _ h => by omega))
              clear hq6 ho6
              obtain ⟨n6, m6, hk6⟩ := HT5.out (T + early) w6 HI4.out (by omega) HQ6.out
              have HK6 := Lib.hid hk6
              clear hk6
              go_wp2_with fail
              refine HK6.out.mono ?_
              rintro e w4 ⟨rfl, hq4, ho4⟩
              have HB4 := Lib.hid (ho4.below HB6.out (HB6.out.size) (fun _ h => by omega))
              clear hq4 ho4
              go_wp2_with (go_at_call 40; refine (awake_p _).mono ?_; rintro e w5 ⟨rfl, ho5⟩; have HO5 := Lib.hid ho5; clear ho5)
              go_ret
              exact ⟨rfl, HO5.out.below HB4.out (HB4.out.size) (fun _ h => h.elim)⟩
            · go_wp2_with fail
              refine (HT3.out _ HQj.out).mono ?_
              rintro e w3 ⟨rfl, hq3, ho3⟩
              have HQ3 := Lib.hid hq3
              have HB3 := Lib.hid (ho3.below HBj.out (HBj.out.size) (fun _ h => by omega))
              clear hq3 ho3
              obtain ⟨n6, m6, hk6⟩ := HT5.out T w3 HIj.out (by omega) HQ3.out
              have HK6 := Lib.hid hk6
              clear hk6
              go_wp2_with fail
              refine HK6.out.mono ?_
              rintro e w4 ⟨rfl, hq4, ho4⟩
              have HB4 := Lib.hid (ho4.below HB3.out (HB3.out.size) (fun _ h => by omega))
              clear hq4 ho4
              go_wp2_with (go_at_call 40; refine (awake_p _).mono ?_; rintro e w5 ⟨rfl, ho5⟩; have HO5 := Lib.hid ho5; clear ho5)
              go_ret
              exact ⟨rfl, HO5.out.below HB4.out (HB4.out.size) (fun _ h => h.elim)⟩

theorem waits_no (p b : Int) (A : Option Addr) (len cap : Nat) (now early : Int) (w : World) (h : ¬ (1 ≤ p ∧ p ≤ 1000000 ∧ 1 ≤ b ∧ b ≤ 1000)) :
    Calls Try.prog 12 #[.int .i64 p, .int .i64 b, .slice A len cap, .int .i64 now, .int .i64 early] w fun e w' => e = .returned (.bool true) ∧ Below w.heap.size w w' := by
  have HN := Lib.hid h
  clear h
  go_enter Try.func12, Try.ntmps12
  go_wp2_with (first | (go_at_call 36; refine (new_no p b _ HN.out).mono ?_; rintro e w1 ⟨rfl, rfl⟩) | (go_at_call 40; refine (awake_p _).mono ?_; rintro e w5 ⟨rfl, ho5⟩; have HO5 := Lib.hid ho5; clear ho5))
  go_ret
  exact ⟨rfl, HO5.out.below (Below.refl _ _) (Nat.le_refl _) (fun _ h => h.elim)⟩

theorem waits_walk (p b : Int) (A : Option Addr) (len cap : Nat) (now early : Int) (xs : List Int) (w : World) (he : (Lit.int .i64 early).wf = true) (hr : Kd.C (Kd.int .i64) w A len xs) (hl : xs.length = len) (hreach : len * 8 ≤ 140737488351232) :
    Calls Try.prog 12 #[.int .i64 p, .int .i64 b, .slice A len cap, .int .i64 now, .int .i64 early] w fun e w' => e = .returned (.bool true) ∧ Below w.heap.size w w' := by
  by_cases h : 1 ≤ p ∧ p ≤ 1000000 ∧ 1 ≤ b ∧ b ≤ 1000
  · have h2 : -9223372036854775808 ≤ early ∧ early ≤ 9223372036854775807 := by simpa [Lit.wf, IntKind.min, IntKind.max, IntKind.bits, IntKind.signed] using he
    exact waits_yes p b A len cap now early xs w h.1 h.2.1 h.2.2.1 h.2.2.2 h2.1 h2.2 hr hl hreach
  · exact waits_no p b A len cap now early w h

end Go.Proofs.Ythleomamdaijdaa.Quo

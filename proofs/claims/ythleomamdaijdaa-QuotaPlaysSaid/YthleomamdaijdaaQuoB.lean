/- The contracts of quota that loop or call others: the reference's Left, Right, the chapter's example. -/
import Derived.Test.YthleomamdaijdaaQuo
set_option linter.unusedVariables false
set_option linter.unusedSimpArgs false
namespace Go.Proofs.Ythleomamdaijdaa.Quo
open Go.RowKit Go.Proofs.Ythleomamdaijdaa.Base Go.Proofs.YthleomamdaijdaaW.PrintWords Go.Proofs.YthleomamdaijdaaW.PrintMore
attribute [local go_sem] max2_mx min2_mn max_two min_two max_three min_three max_four min_four

/-- One more fits just below how many fit. -/
theorem fits {p b n m : Int} (h : Inv p b n m) (now : Int) (c : Nat) : (mx m (ovn n now) + c * p + p - ovn n now ≤ b * p ↔ (c : Int) < lf p b n m now) := by
  have hp := h.p1
  unfold lf
  have e := Int.lt_ediv_iff_mul_lt (a := (c : Int)) (b := b * p - (mx m (ovn n now) - ovn n now)) (c := p) (by omega)
  constructor
  · intro h2
    have : (c + 1 : Int) ≤ (b * p - (mx m (ovn n now) - ovn n now)) / p := by
      rw [Int.le_ediv_iff_mul_le (by omega), Int.add_mul]; omega
    omega
  · intro h2
    have : (c + 1 : Int) ≤ (b * p - (mx m (ovn n now) - ovn n now)) / p := by omega
    rw [Int.le_ediv_iff_mul_le (by omega), Int.add_mul] at this; omega

set_option maxHeartbeats 1000000 in
theorem left_r (g : Nat) (p b n m now : Int) (w : World) (hi : Inv p b n m) (hq : Q49 w g p b n m) :
    Calls Try.prog 42 #[.pointer (some ⟨g, 0, none⟩), .int .i64 now] w fun e w' => e = .returned (.int .i64 (lf p b n m now)) ∧ Q49 w' g p b (ovn n now) m ∧ Only (fun i => i = g) w w' := by
  have HQ := Lib.hid hq
  have HI := Lib.hid hi
  have HL := Lib.hid (lf_bounds hi now)
  clear hq hi
  go_enter Try.func42, Try.ntmps42
  go_wp2_with (go_at_call 53; refine (on_r g p b n m now _ HQ.out).mono ?_; rintro e w1 ⟨rfl, hq1, ho1⟩; have HQ1 := Lib.hid hq1; have HO1 := Lib.hid ho1; clear hq1 ho1)
  go_loopw [5, 6] (fun mark n0 wr => ∃ c : Nat, (c : Int) ≤ lf p b n m now ∧ mark = .int .i64 (mx m (ovn n now) + c * p) ∧ n0 = .int .i64 c ∧ Hid (Q49 wr g p b (ovn n now) m) ∧ Hid (Only (fun i => i = g) w wr)) (fun _ n0 _ => (lf p b n m now - intOf n0).toNat)
  case atStart => exact ⟨0, HL.out.2.1, by simp, rfl, HQ1, HO1⟩
  case round =>
    obtain ⟨c, hc, rfl, rfl, HQr, HOr⟩ := hrel
    have hcr0 : wr.cell? ⟨g, 0, none⟩ = some (.int .i64 p) := cell_at HQr.out 0 rfl
    have hcr1 : wr.cell? ⟨g, 1, none⟩ = some (.int .i64 b) := cell_at HQr.out 1 rfl
    have hcr2 : wr.cell? ⟨g, 2, none⟩ = some (.int .i64 (ovn n now)) := cell_at HQr.out 2 rfl
    have hb := bp_bounds HI.out.p1 HI.out.p2 HI.out.b1 HI.out.b2
    have ho := ovn_bounds now HI.out.n1 HI.out.n2
    have hl := HL.out
    have hcp : 0 ≤ (c : Int) * p ∧ (c : Int) * p ≤ b * p - (mx m (ovn n now) - ovn n now) := by
      constructor
      · exact Int.mul_nonneg (by omega) (by have := HI.out.p1; omega)
      · have h1 : (c : Int) ≤ (b * p - (mx m (ovn n now) - ovn n now)) / p := hc
        rwa [Int.le_ediv_iff_mul_le (by have := HI.out.p1; omega)] at h1
    have hmx : ovn n now ≤ mx m (ovn n now) := by rcases mx_cases m (ovn n now) with h | h <;> omega
    have hf := fits HI.out now c
    obtain ⟨X, hX⟩ : ∃ X, X = mx m (ovn n now) + (c : Int) * p := ⟨_, rfl⟩
    obtain ⟨x, hx⟩ : ∃ x, x = ovn n now := ⟨_, rfl⟩
    have hX0 : x ≤ X := by omega
    have hX1 : X ≤ x + 1000000000 := by omega
    have hx0 : 0 ≤ x := by have := HI.out.n1; omega
    have hx1 : x ≤ 1125899906842624 := by omega
    have hp1 := HI.out.p1
    have hp2 := HI.out.p2
    have hy0 : 0 ≤ b * p := by omega
    have hy1 : b * p ≤ 1000000000 := hb.2
    rw [← hx] at hcr2
    rw [← hX]
    by_cases hlt : (c : Int) < lf p b n m now
    · have hle : X + p - x ≤ b * p := by have := hf.2 hlt; omega
      have HX := Lib.hid hX
      have Hx := Lib.hid hx
      have Hlt := Lib.hid hlt
      have hci : (c : Int) ≤ 1000 := by have := HI.out.b2; omega
      clear hX hx hlt hf hcp hl ho hb hmx hc
      go_wp2
      go_quiet (fail)
      go_wp2
      go_roundw
      case rel =>
        refine ⟨c + 1, by have := Hlt.out; omega, ?_, by go_num, HQr, ?_⟩
        · have h1 := HX.out
          have h2 : ((c + 1 : Nat) : Int) * p = c * p + p := by rw [Int.natCast_add, Int.add_mul]; simp
          rw [h2]; congr 1; omega
        · exact Lib.hid (HOr.out.drewN _)
      case measure =>
        have := Hlt.out
        simp [intOf]; omega
    · have hle : ¬ X + p - x ≤ b * p := by intro h; exact hlt (hf.1 (by omega))
      have hle2 : b * p < X + p - x := by omega
      have He : Hid (lf p b n m now = c) := Lib.hid (by omega)
      clear hX hx hlt hf hcp hl ho hb hmx hc hle
      go_wp2
      go_quiet (fail)
      go_wp2
      go_ret
      rw [He.out]
      exact ⟨rfl, HQr.out, HOr.out.drewN _⟩

theorem right_t (p b : Int) (w : World) (h1 : 1 ≤ p) (h2 : p ≤ 1000000) (h3 : 1 ≤ b) (h4 : b ≤ 1000) : Calls Try.prog 37 #[.int .i64 p, .int .i64 b] w fun e w' => e = .returned (.bool true) ∧ w' = w := by
  go_enter Try.func37, Try.ntmps37
  go_wp2
  go_ret
  exact ⟨rfl, rfl⟩

theorem right_f (p b : Int) (w : World) (h : ¬ (1 ≤ p ∧ p ≤ 1000000 ∧ 1 ≤ b ∧ b ≤ 1000)) : Calls Try.prog 37 #[.int .i64 p, .int .i64 b] w fun e w' => e = .returned (.bool false) ∧ w' = w := by
  by_cases h1 : 1 ≤ p
  · by_cases h2 : p ≤ 1000000
    · by_cases h3 : 1 ≤ b
      · have h4 : decide (b ≤ 1000) = false := by simp; omega
        clear h
        go_enter Try.func37, Try.ntmps37
        go_wp2
        go_ret
        exact ⟨rfl, rfl⟩
      · have h3' : decide (1 ≤ b) = false := by simp; omega
        clear h
        go_enter Try.func37, Try.ntmps37
        go_wp2
        go_ret
        exact ⟨rfl, rfl⟩
    · have h3' : decide (p ≤ 1000000) = false := by simp; omega
      clear h
      go_enter Try.func37, Try.ntmps37
      go_wp2
      go_ret
      exact ⟨rfl, rfl⟩
  · have h3' : decide (1 ≤ p) = false := by simp; omega
    clear h
    go_enter Try.func37, Try.ntmps37
    go_wp2
    go_ret
    exact ⟨rfl, rfl⟩

theorem inv_new {p b : Int} (h1 : 1 ≤ p) (h2 : p ≤ 1000000) (h3 : 1 ≤ b) (h4 : b ≤ 1000) : Inv p b 0 0 :=
  ⟨h1, h2, h3, h4, by omega, by omega, by omega, by have := bp_bounds h1 h2 h3 h4; omega⟩

/-- The program's Left, by the plain count. -/
theorem left_q (g : Nat) (p b n m now : Int) (w : World) (hi : Inv p b n m) (hq : Q57 w g p b n m) :
    Calls Try.prog 39 #[.pointer (some ⟨g, 0, none⟩), .int .i64 now] w fun e w' => e = .returned (.int .i64 (lf p b n m now)) ∧ Q57 w' g p b (ovn n now) m ∧ Only (fun i => i = g) w w' := by
  have h := left_p g p b n m now w hi.p1 hq
  rw [lft_eq hi] at h
  exact h

theorem take_eq (g : Nat) (p b n m now : Int) (ok : Bool) (wt n' m' : Int) (h1 : tkb p b n m now = ok) (h2 : tkw p b n m now = wt) (h3 : ovn n now = n') (h4 : tkm p b n m now = m') (w : World) (hq : Q57 w g p b n m) :
    Calls Try.prog 38 #[.pointer (some ⟨g, 0, none⟩), .int .i64 now] w fun e w' => e = .returned (.tuple #[.bool ok, .int .i64 wt]) ∧ Q57 w' g p b n' m' ∧ Only (fun i => i = g) w w' := by
  subst h1 h2 h3 h4
  exact take_p g p b n m now w hq

theorem left_eq (g : Nat) (p b n m now : Int) (r n' : Int) (hi : Inv p b n m) (h1 : lf p b n m now = r) (h3 : ovn n now = n') (w : World) (hq : Q57 w g p b n m) :
    Calls Try.prog 39 #[.pointer (some ⟨g, 0, none⟩), .int .i64 now] w fun e w' => e = .returned (.int .i64 r) ∧ Q57 w' g p b n' m ∧ Only (fun i => i = g) w w' := by
  subst h1 h3
  exact left_q g p b n m now w hi hq

/-- The chapter's example. -/
theorem awake_p (w : World) : Calls Try.prog 40 #[] w fun e w' => e = .returned (.bool true) ∧ Only (fun _ => False) w w' := by
  have h2 : ∀ (g : Nat) (w : World), Q57 w g 10 2 0 0 → Calls Try.prog 38 #[.pointer (some ⟨g, 0, none⟩), .int .i64 0] w fun e w' => e = .returned (.tuple #[.bool true, .int .i64 0]) ∧ Q57 w' g 10 2 0 10 ∧ Only (fun i => i = g) w w' :=
    fun g w hq => take_eq g 10 2 0 0 0 true 0 0 10 (by decide +kernel) (by decide +kernel) (by decide +kernel) (by decide +kernel) w hq
  have h3 : ∀ (g : Nat) (w : World), Q57 w g 10 2 0 10 → Calls Try.prog 38 #[.pointer (some ⟨g, 0, none⟩), .int .i64 0] w fun e w' => e = .returned (.tuple #[.bool true, .int .i64 0]) ∧ Q57 w' g 10 2 0 20 ∧ Only (fun i => i = g) w w' :=
    fun g w hq => take_eq g 10 2 0 10 0 true 0 0 20 (by decide +kernel) (by decide +kernel) (by decide +kernel) (by decide +kernel) w hq
  have h4 : ∀ (g : Nat) (w : World), Q57 w g 10 2 0 20 → Calls Try.prog 38 #[.pointer (some ⟨g, 0, none⟩), .int .i64 0] w fun e w' => e = .returned (.tuple #[.bool false, .int .i64 10]) ∧ Q57 w' g 10 2 0 20 ∧ Only (fun i => i = g) w w' :=
    fun g w hq => take_eq g 10 2 0 20 0 false 10 0 20 (by decide +kernel) (by decide +kernel) (by decide +kernel) (by decide +kernel) w hq
  have h5 : ∀ (g : Nat) (w : World), Q57 w g 10 2 0 20 → Calls Try.prog 39 #[.pointer (some ⟨g, 0, none⟩), .int .i64 9] w fun e w' => e = .returned (.int .i64 0) ∧ Q57 w' g 10 2 9 20 ∧ Only (fun i => i = g) w w' :=
    fun g w hq => left_eq g 10 2 0 20 9 0 9 ⟨by omega, by omega, by omega, by omega, by omega, by omega, by omega, by omega⟩ (by decide +kernel) (by decide +kernel) w hq
  have h6 : ∀ (g : Nat) (w : World), Q57 w g 10 2 9 20 → Calls Try.prog 39 #[.pointer (some ⟨g, 0, none⟩), .int .i64 10] w fun e w' => e = .returned (.int .i64 1) ∧ Q57 w' g 10 2 10 20 ∧ Only (fun i => i = g) w w' :=
    fun g w hq => left_eq g 10 2 9 20 10 1 10 ⟨by omega, by omega, by omega, by omega, by omega, by omega, by omega, by omega⟩ (by decide +kernel) (by decide +kernel) w hq
  have H2 := Lib.hid h2
  have H3 := Lib.hid h3
  have H4 := Lib.hid h4
  have H5 := Lib.hid h5
  have H6 := Lib.hid h6
  clear h2 h3 h4 h5 h6
  go_enter Try.func40, Try.ntmps40
  go_wp2_with fail
  refine (new_ok 10 2 _ (by omega) (by omega)).mono ?_
  rintro e w1 ⟨rfl, hq1, ho1⟩
  obtain ⟨g, hg⟩ : ∃ g, g = w.heap.size := ⟨_, rfl⟩
  rw [← hg] at hq1 ⊢
  have HG := Lib.hid hg
  have HQ1 := Lib.hid hq1
  have HO1 := Lib.hid ho1
  clear hg hq1 ho1
  go_wp2_with fail
  refine (H2.out g _ HQ1.out).mono ?_
  rintro e w2 ⟨rfl, hq2, ho2⟩
  have HQ2 := Lib.hid hq2
  have HO2 := Lib.hid ho2
  clear hq2 ho2
  go_wp2_with fail
  refine (H3.out g _ HQ2.out).mono ?_
  rintro e w3 ⟨rfl, hq3, ho3⟩
  have HQ3 := Lib.hid hq3
  have HO3 := Lib.hid ho3
  clear hq3 ho3
  go_wp2_with fail
  refine (H4.out g _ HQ3.out).mono ?_
  rintro e w4 ⟨rfl, hq4, ho4⟩
  have HQ4 := Lib.hid hq4
  have HO4 := Lib.hid ho4
  clear hq4 ho4
  go_wp2_with fail
  refine (H5.out g _ HQ4.out).mono ?_
  rintro e w5 ⟨rfl, hq5, ho5⟩
  have HQ5 := Lib.hid hq5
  have HO5 := Lib.hid ho5
  clear hq5 ho5
  go_wp2_with fail
  refine (H6.out g _ HQ5.out).mono ?_
  rintro e w6 ⟨rfl, hq6, ho6⟩
  have HQ6 := Lib.hid hq6
  have HO6 := Lib.hid ho6
  clear hq6 ho6
  go_wp2
  go_ret
  refine ⟨rfl, ?_⟩
  have hg := HG.out
  have hs : ∀ i, i = g → False ∨ w.heap.size ≤ i := fun i hi => .inr (by omega)
  exact ((((HO1.out.then_ HO2.out hs).then_ HO3.out hs).then_ HO4.out hs).then_ HO5.out hs).then_ HO6.out hs

end Go.Proofs.Ythleomamdaijdaa.Quo

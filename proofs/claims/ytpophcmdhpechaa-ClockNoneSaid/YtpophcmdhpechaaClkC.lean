/- ClockPlays, ClockNone: the walks of the laws over the contracts. -/
import Derived.Test.YtpophcmdhpechaaClkB
import Derived.Test.YtpophcmdhpechaaArgs
set_option linter.unusedVariables false
set_option linter.unusedSimpArgs false
namespace Go.Proofs.Ytpophcmdhpechaa.Clk
open Go.RowKit Go.Proofs.Ytpophcmdhpechaa.Base Go.Proofs.YtpophcmdhpechaaW.PrintWords Go.Proofs.YtpophcmdhpechaaW.PrintMore
attribute [local go_sem] max2_mx min2_mn max_two min_two max_three min_three max_four min_four

theorem tick_nil (n : Int) (w : World) : Calls Try.prog 13 #[.pointer none, .int .i64 n] w fun e w' => e = .returned (.tuple #[]) ∧ w = w' := by
  go_enter Try.func13, Try.ntmps13
  go_wp2
  go_end0
  exact ⟨rfl, rfl⟩
theorem real_nil (w : World) : Calls Try.prog 14 #[.pointer none] w fun e w' => e = .returned (.int .i64 0) ∧ w = w' := by
  go_enter Try.func14, Try.ntmps14
  go_wp2
  go_ret
  exact ⟨rfl, rfl⟩
theorem skew_nil (w : World) : Calls Try.prog 11 #[.pointer none] w fun e w' => e = .returned (.int .i64 0) ∧ w = w' := by
  go_enter Try.func11, Try.ntmps11
  go_wp2
  go_ret
  exact ⟨rfl, rfl⟩
theorem is_nil (i : Int) (w : World) : Calls Try.prog 31 #[.pointer none, .int .i64 i] w fun e w' => e = .returned (.bool false) ∧ w = w' := by
  go_enter Try.func31, Try.ntmps31
  go_wp2
  go_ret
  exact ⟨rfl, rfl⟩
theorem read_nil (i : Int) (w : World) : Calls Try.prog 15 #[.pointer none, .int .i64 i] w fun e w' => e = .returned (.int .i64 0) ∧ w = w' := by
  go_enter Try.func15, Try.ntmps15
  go_wp2_with (go_at_call 31; refine (is_nil _ _).mono ?_; rintro e w' ⟨rfl, rfl⟩)
  go_ret
  exact ⟨rfl, rfl⟩
theorem shift_nil (i n : Int) (w : World) : Calls Try.prog 16 #[.pointer none, .int .i64 i, .int .i64 n] w fun e w' => e = .returned (.int .i64 7) ∧ w = w' := by
  go_enter Try.func16, Try.ntmps16
  go_wp2_with (go_at_call 31; refine (is_nil _ _).mono ?_; rintro e w' ⟨rfl, rfl⟩)
  go_ret
  exact ⟨rfl, rfl⟩

theorem says_1 : says (add 0 100) ((List.replicate (2 : Int).toNat 0).set (1 : Int).toNat (shB 5 99)) (List.replicate (2 : Int).toNat 0) 1 = 105 := by decide +kernel
theorem says_0 : says (add 0 100) ((List.replicate (2 : Int).toNat 0).set (1 : Int).toNat (shB 5 99)) ((List.replicate (2 : Int).toNat 0).set (1 : Int).toNat (says (add 0 100) ((List.replicate (2 : Int).toNat 0).set (1 : Int).toNat (shB 5 99)) (List.replicate (2 : Int).toNat 0) 1)) 0 = 100 := by decide +kernel
theorem add_1 : add 0 100 = 100 := by decide +kernel

set_option maxHeartbeats 4000000 in
theorem awake_p (w : World) : Calls Try.prog 12 #[] w fun e w' => e = .returned (.bool true) ∧ Only (fun _ => False) w w' := by
  go_enter Try.func12, Try.ntmps12
  go_wp2_with fail
  refine (new_p 2 5 _ (by omega) (by omega) (by omega) (by omega)).mono ?_
  rintro e w1 ⟨g, ga, gs, ca, cs, rfl, hp, ho⟩
  have HP := Lib.hid hp
  have HO := Lib.hid ho
  clear hp ho
  go_wp2_with fail
  refine (tick_p HP.out 100).mono ?_
  rintro e w2 ⟨rfl, hp2, ho2⟩
  have HP2 := Lib.hid hp2
  have HO2 := Lib.hid ho2
  clear hp2 ho2
  go_wp2_with fail
  refine (shift_p HP2.out 1 99 rfl (by omega) (by decide) (by omega) (by omega)).mono ?_
  rintro e w3 ⟨rfl, hp3, ho3⟩
  have HP3 := Lib.hid hp3
  have HO3 := Lib.hid ho3
  clear hp3 ho3
  go_wp2_with fail
  refine (read_p HP3.out 1 (by simp) (by omega) (by decide)).mono ?_
  rintro e w4 ⟨rfl, hp4, ho4⟩
  have HP4 := Lib.hid hp4
  have HO4 := Lib.hid ho4
  clear hp4 ho4
  rw [says_1]
  go_wp2_with fail
  refine (read_p HP4.out 0 (by simp) (by omega) (by simp)).mono ?_
  rintro e w5 ⟨rfl, hp5, ho5⟩
  have HP5 := Lib.hid hp5
  have HO5 := Lib.hid ho5
  clear hp5 ho5
  rw [says_0]
  go_wp2_with fail
  refine (real_p HP5.out).mono ?_
  rintro e w6 ⟨rfl, rfl⟩
  rw [add_1]
  go_wp2
  go_ret
  refine ⟨rfl, ?_⟩
  have hs : ∀ i, Own3 g ga gs i → False ∨ w.heap.size ≤ i := fun i h => .inr (HP.out.lt i h).2
  exact (((HO.out.then_ HO2.out hs).then_ HO3.out hs).then_ HO4.out hs).then_ HO5.out hs

set_option maxHeartbeats 4000000 in
theorem none_walk (i n : Int) (w : World) : Calls Try.prog 4 #[.int .i64 i, .int .i64 n] w fun e w' => e = .returned (.bool true) ∧ Below w.heap.size w w' := by
  go_enter Try.func4, Try.ntmps4
  go_wp2_with (first | (go_at_call 13; refine (tick_nil _ _).mono ?_; rintro e w' ⟨rfl, rfl⟩) | (go_at_call 14; refine (real_nil _).mono ?_; rintro e w' ⟨rfl, rfl⟩) | (go_at_call 11; refine (skew_nil _).mono ?_; rintro e w' ⟨rfl, rfl⟩) | (go_at_call 15; refine (read_nil _ _).mono ?_; rintro e w' ⟨rfl, rfl⟩) | (go_at_call 16; refine (shift_nil _ _ _).mono ?_; rintro e w' ⟨rfl, rfl⟩) | (go_at_call 12; refine (awake_p _).mono ?_; rintro e w5 ⟨rfl, ho5⟩; have HO5 := Lib.hid ho5; clear ho5))
  go_ret
  exact ⟨rfl, HO5.out.below (Below.refl _ _) (Nat.le_refl _) (fun _ h => h.elim)⟩

/-- Deeds: at each index three numbers. -/
def Deeds (w : World) (A : Option Addr) (len : Nat) : Prop :=
  ∀ i : Int, 0 ≤ i → i < len → ∃ a K V N, A = some a ∧ w.cell? (a.add (i.toNat * 3)) = some (.int .i64 K) ∧ w.cell? ⟨(a.add (i.toNat * 3)).block, (a.add (i.toNat * 3)).off + 1, none⟩ = some (.int .i64 V) ∧ w.cell? ⟨(a.add (i.toNat * 3)).block, (a.add (i.toNat * 3)).off + 2, none⟩ = some (.int .i64 N)

theorem cells32 : Try.prog.cellsOf 32 = 3 := by kernel_rfl

theorem deeds_of {w : World} {A : Option Addr} {len : Nat} (h : ∀ i, i < len → ∃ a, A = some a ∧ ∀ o k, (o, k) ∈ [(0, Args.Bs.int .i64), (1, Args.Bs.int .i64), (2, Args.Bs.int .i64)] → ∃ v, w.cell? (a.add (i * Try.prog.cellsOf 32 + o)) = some v ∧ k.fit v) : Deeds w A len := by
  intro i h0 h1
  obtain ⟨a, hA, hc⟩ := h i.toNat (by omega)
  rw [cells32] at hc
  obtain ⟨v0, hv0, x0, rfl, _⟩ := hc 0 (.int .i64) (by simp)
  obtain ⟨v1, hv1, x1, rfl, _⟩ := hc 1 (.int .i64) (by simp)
  obtain ⟨v2, hv2, x2, rfl, _⟩ := hc 2 (.int .i64) (by simp)
  exact ⟨a, x0, x1, x2, hA, hv0, by rw [← add_field a (i.toNat * 3) 1 (by omega)]; exact hv1, by rw [← add_field a (i.toNat * 3) 2 (by omega)]; exact hv2⟩

theorem CK.lower {T : TypeId} {w : World} {base base' g ga gs ca cs : Nat} {real skew : Int} {ap sd : List Int} (h : CK T w base g ga gs ca cs real skew ap sd) (hb : base' ≤ base) : CK T w base' g ga gs ca cs real skew ap sd :=
  ⟨h.blk, Kd.R_lower h.ra hb, Kd.R_lower h.rs hb, h.n1, h.n2, h.n3, Nat.le_trans hb h.b1, Nat.le_trans hb h.b2, Nat.le_trans hb h.b3⟩

theorem Two.drew {w : World} {base g ga gs ca cs h ha hs da ds : Nat} {real skew : Int} {ap sd : List Int} (H : Two w base g ga gs ca cs h ha hs da ds real skew ap sd) : Two w.drew base g ga gs ca cs h ha hs da ds real skew ap sd :=
  ⟨H.p.drew, H.r.drew, H.far, H.len, H.k0, H.k1⟩

set_option maxHeartbeats 8000000 in
set_option maxRecDepth 100000 in
theorem plays_yes (p b : Int) (A : Option Addr) (len cap : Nat) (w : World) (h1 : 1 ≤ p) (h2 : p ≤ 64) (h3 : 0 ≤ b) (h4 : b ≤ 1000) (hd : Deeds w A len) (hlen : len ≤ maxLen) :
    Calls Try.prog 3 #[.int .i64 p, .int .i64 b, .slice A len cap] w fun e w' => e = .returned (.bool true) ∧ Below w.heap.size w w' := by
  unfold maxLen at hlen
  have HD := Lib.hid hd
  clear hd
  go_enter Try.func3, Try.ntmps3
  go_wp2_with fail
  refine (new_p p b _ h1 h2 h3 h4).mono ?_
  rintro e w1 ⟨g, ga, gs, ca, cs, rfl, hp, ho⟩
  have HP := Lib.hid hp
  have HO := Lib.hid ho
  clear hp ho
  go_wp2_with fail
  refine (new_r p b _ h1 h2 h3 h4).mono ?_
  rintro e w2 ⟨h, ha, hs, da, ds, rfl, hr2, ho2⟩
  have HB2 : Hid (Below w.heap.size w w2) := Lib.hid (ho2.below (HO.out.below (Below.refl _ _) (Nat.le_refl _) (fun _ h => h.elim)) HO.out.size (fun _ h => h.elim))
  have HT : Hid (Two w2 w.heap.size g ga gs ca cs h ha hs da ds 0 b (List.replicate p.toNat 0) (List.replicate p.toNat 0)) := Lib.hid
    ⟨HP.out.keep ho2 (fun _ h => h.elim), hr2.lower HO.out.size, fun i hi hj => by have := (HP.out.lt i hi).1; have := (hr2.lt i hj).2; omega, rfl, h3, h4⟩
  clear hr2 ho2 HP HO
  go_wp2_with fail
  go_loopw [11] (fun vi wr => ∃ (i real : Int) (ap sd : List Int), vi = .int .i64 i ∧ 0 ≤ i ∧ i ≤ 60 ∧ Hid (Two wr w.heap.size g ga gs ca cs h ha hs da ds real b ap sd) ∧ Hid (Below w.heap.size w wr)) (fun vi _ => (60 - intOf vi).toNat)
  case atStart => exact ⟨0, _, _, _, rfl, by omega, by omega, HT, HB2⟩
  case round =>
    obtain ⟨i, real, ap, sd, rfl, hi0, hi1, HT, HB⟩ := hrel
    have hgo : (i < (len : Int) ∧ i < 60) ∨ (i < (len : Int) ∧ ¬ i < 60) ∨ ¬ i < (len : Int) := by omega
    rcases hgo with ⟨hlt, h60⟩ | ⟨hlt, h60⟩ | hlt
    · obtain ⟨ad, k, nd, n, hA, hk, hnd, hn⟩ := HD.out i hi0 hlt
      cases hA
      have HC0 := Lib.hid hk
      have HC1 := Lib.hid hnd
      have HC2 := Lib.hid hn
      clear hk hnd hn
      have hc0 := (HB.out.cell (World.block_lt_of_cell? w _ HC0.out)).trans HC0.out
      have hc1 := (HB.out.cell (World.block_lt_of_cell? w _ HC1.out)).trans HC1.out
      have hc2 := (HB.out.cell (World.block_lt_of_cell? w _ HC2.out)).trans HC2.out
      have hcs : wr.cell? ⟨h, 1, none⟩ = some (.int .i64 b) := cell_at HT.out.r.blk 1 rfl
      go_wp2
      go_region_held3 (fun w' => w'.cell? (ad.add (i.toNat * 3)) = some (.int .i64 k) ∧ w'.cell? ⟨(ad.add (i.toNat * 3)).block, (ad.add (i.toNat * 3)).off + 1, none⟩ = some (.int .i64 nd) ∧ w'.cell? ⟨(ad.add (i.toNat * 3)).block, (ad.add (i.toNat * 3)).off + 2, none⟩ = some (.int .i64 n) ∧ w'.cell? ⟨h, 1, none⟩ = some (.int .i64 b)) (first | exact ⟨hc0, hc1, hc2, hcs⟩ | exact ⟨hd0, hd1, hd2, hds⟩) (first | (go_at_call 10; refine (does_any (by exact (Two.drew HT.out)) k nd n).mono ?_; rintro e w3 ⟨real3, ap3, sd3, rfl, ht3, hl3, ho3⟩; have HT3 := Lib.hid ht3; have HB3 := Lib.hid (ho3.below (u := w) (B := w.heap.size) (below_drew HB.out) HB.out.size (fun _ h => h)); have hd0 := (HB3.out.cell (World.block_lt_of_cell? w _ HC0.out)).trans HC0.out; have hd1 := (HB3.out.cell (World.block_lt_of_cell? w _ HC1.out)).trans HC1.out; have hd2 := (HB3.out.cell (World.block_lt_of_cell? w _ HC2.out)).trans HC2.out; have hds : w3.cell? ⟨h, 1, none⟩ = some (.int .i64 b) := cell_at ht3.r.blk 1 rfl; clear ht3 hl3 ho3) | (go_at_call 11; refine (skew_p (by exact HT3.out.p)).mono ?_; rintro e w4 ⟨rfl, rfl⟩))
      all_goals
        go_wp2
        go_roundw
        case rel => exact ⟨i + 1, real3, ap3, sd3, by go_num, by omega, by omega, HT3, HB3⟩
        case measure => simp [intOf]; omega
    all_goals
      go_wp2_with (go_at_call 12; refine (awake_p _).mono ?_; rintro e w5 ⟨rfl, ho5⟩; have HO5 := Lib.hid ho5; clear ho5)
      go_ret
      exact ⟨rfl, HO5.out.below HB.out HB.out.size (fun _ h => h.elim)⟩

theorem plays_no (p b : Int) (A : Option Addr) (len cap : Nat) (w : World) (h : ¬ (1 ≤ p ∧ p ≤ 64 ∧ 0 ≤ b ∧ b ≤ 1000)) :
    Calls Try.prog 3 #[.int .i64 p, .int .i64 b, .slice A len cap] w fun e w' => e = .returned (.bool true) ∧ Below w.heap.size w w' := by
  have HN := Lib.hid h
  clear h
  go_enter Try.func3, Try.ntmps3
  go_wp2_with (first | (go_at_call 8; refine (new_no p b _ HN.out).mono ?_; rintro e w1 ⟨rfl, rfl⟩) | (go_at_call 9; refine (new_r_no p b _ HN.out).mono ?_; rintro e w1 ⟨rfl, rfl⟩))
  go_loopw [11] (fun vi wr => vi = .int .i64 0 ∧ Hid (Below w.heap.size w wr)) (fun vi _ => 0)
  case atStart => exact ⟨rfl, Lib.hid (Below.refl _ _)⟩
  case round =>
    obtain ⟨rfl, HB⟩ := hrel
    go_wp2_with (go_at_call 12; refine (awake_p _).mono ?_; rintro e w5 ⟨rfl, ho5⟩; have HO5 := Lib.hid ho5; clear ho5)
    go_ret
    exact ⟨rfl, HO5.out.below HB.out HB.out.size (fun _ h => h.elim)⟩

theorem plays_walk (p b : Int) (A : Option Addr) (len cap : Nat) (w : World) (hd : Deeds w A len) (hlen : len ≤ maxLen) :
    Calls Try.prog 3 #[.int .i64 p, .int .i64 b, .slice A len cap] w fun e w' => e = .returned (.bool true) ∧ Below w.heap.size w w' := by
  by_cases h : 1 ≤ p ∧ p ≤ 64 ∧ 0 ≤ b ∧ b ≤ 1000
  · exact plays_yes p b A len cap w h.1 h.2.1 h.2.2.1 h.2.2.2 hd hlen
  · exact plays_no p b A len cap w h

end Go.Proofs.Ytpophcmdhpechaa.Clk

/- BreakerRests: the walk of the law. -/
import Derived.Test.YtocbnfpnbgpfjaaBrkR
set_option linter.unusedVariables false
set_option linter.unusedSimpArgs false
namespace Go.Proofs.Ytocbnfpnbgpfjaa.Brk
open Go.RowKit Go.Proofs.Ytocbnfpnbgpfjaa.Base Go.Proofs.YtocbnfpnbgpfjaaW.PrintWords Go.Proofs.YtocbnfpnbgpfjaaW.PrintMore
attribute [local go_sem] max2_mx min2_mn max_two min_two max_three min_three max_four min_four

theorem rests_no (s f r p : Int) (A : Option Addr) (len cap : Nat) (w : World) (h : ¬ Cfg s f r p) :
    Calls Try.prog 4 #[.int .i64 s, .int .i64 f, .int .i64 r, .int .i64 p, .slice A len cap] w fun e w' => e = .returned (.bool true) ∧ Below w.heap.size w w' := by
  go_enter Try.func4, Try.ntmps4
  go_wp2_with (first | (go_at_call 7; refine (new_bad _ _ _ _ _ h).mono ?_; rintro e w1 ⟨rfl, rfl⟩) | (go_at_call 9; refine (awake_p _).mono ?_; rintro e w5 ⟨rfl, ho5⟩; have HO5 := Lib.hid ho5; clear ho5))
  go_ret
  exact ⟨rfl, HO5.out.below (Below.refl _ _) (Nat.le_refl _) (fun _ h => h.elim)⟩

set_option maxHeartbeats 8000000 in
set_option maxRecDepth 100000 in
theorem rests_yes (s f r p : Int) (A : Option Addr) (len cap : Nat) (w : World) (hc : Cfg s f r p) (hd : Deeds w A len) (hlen : len ≤ maxLen) :
    Calls Try.prog 4 #[.int .i64 s, .int .i64 f, .int .i64 r, .int .i64 p, .slice A len cap] w fun e w' => e = .returned (.bool true) ∧ Below w.heap.size w w' := by
  unfold maxLen at hlen
  have HD := Lib.hid hd
  clear hd
  have HCF := Lib.hid hc
  clear hc
  go_enter Try.func4, Try.ntmps4
  go_wp2_with fail
  refine (new_o _ HCF.out).mono ?_
  rintro e w1 ⟨rfl, h1, o1⟩
  have HW1 := Lib.hid h1
  have HB1 : Hid (Below w.heap.size w w1) := Lib.hid (o1.below (Below.refl _ _) (Nat.le_refl _) (fun _ h => h.elim))
  have HI1 : Hid (Inv s p ⟨0, 0, 0, [], 0, 0⟩) := Lib.hid (inv_new HCF.out)
  have HR1 : Hid (RI ⟨0, 0, 0, [], 0, 0⟩ 0 0 0) := Lib.hid ⟨by omega, by omega, by simp, by simp⟩
  clear h1 o1
  go_wp2
  go_loopw [13, 14, 15, 16, 17] (fun vn vu vt vw vi wr => ∃ (σ : St) (i un th : Int), vn = .int .i64 σ.now ∧ vu = .int .i64 un ∧ vt = .int .i64 th ∧ vw = .int .i64 σ.st ∧ vi = .int .i64 i ∧ 0 ≤ i ∧ i ≤ 60 ∧ Hid (Ow wr w.heap.size w.heap.size s f r p σ) ∧ Hid (Below w.heap.size w wr) ∧ Hid (Inv s p σ) ∧ Hid (RI σ un th i)) (fun _ _ _ _ vi _ => (60 - intOf vi).toNat)
  case atStart => exact ⟨_, 0, 0, 0, rfl, rfl, rfl, rfl, rfl, by omega, by omega, HW1, HB1, HI1, HR1⟩
  case round =>
    obtain ⟨σ, i, un, th, rfl, rfl, rfl, rfl, rfl, hi0, hi1, HW, HB, HI, HR⟩ := hrel
    have hgo : (i < (len : Int) ∧ i < 60) ∨ (i < (len : Int) ∧ ¬ i < 60) ∨ ¬ i < (len : Int) := by omega
    rcases hgo with ⟨hlt, h60⟩ | ⟨hlt, h60⟩ | hlt
    · obtain ⟨ad0, k, t, b, hA, hk, ht, hb⟩ := HD.out i hi0 hlt
      cases hA
      have HC0 := Lib.hid hk
      have HC1 := Lib.hid ht
      have HC2 := Lib.hid hb
      clear hk ht hb
      have hc0 := (HB.out.cell (World.block_lt_of_cell? w _ HC0.out)).trans HC0.out
      have hc1 := (HB.out.cell (World.block_lt_of_cell? w _ HC1.out)).trans HC1.out
      have hc2 := (HB.out.cell (World.block_lt_of_cell? w _ HC2.out)).trans HC2.out
      have ht0 := HR.out.t0
      have ht1 := HR.out.t1
      have hwt : wrap64 (th + 1) = th + 1 := by unfold wrap64; omega
      have hkind : k < 0 ∨ (¬ k < 0 ∧ 3 < k) ∨ (¬ k < 0 ∧ ¬ 3 < k ∧ 1 < k) ∨ (¬ k < 0 ∧ ¬ 3 < k ∧ ¬ 1 < k) := by omega
      rcases hkind with hk | ⟨hk, hk3⟩ | ⟨hk, hk3, hk1⟩ | ⟨hk, hk3, hk1⟩
      · go_wp2
        go_roundw
        case rel => exact ⟨σ, i + 1, un, th, rfl, rfl, rfl, rfl, by go_num, by omega, by omega, HW, HB, HI, Lib.hid ⟨HR.out.t0, by have := HR.out.t1; omega, HR.out.open_, HR.out.half⟩⟩
        case measure => simp [intOf]; omega
      · go_wp2
        go_roundw
        case rel => exact ⟨σ, i + 1, un, th, rfl, rfl, rfl, rfl, by go_num, by omega, by omega, HW, HB, HI, Lib.hid ⟨HR.out.t0, by have := HR.out.t1; omega, HR.out.open_, HR.out.half⟩⟩
        case measure => simp [intOf]; omega
      · obtain ⟨hnow, hcase⟩ := done_cases HCF.out HI.out t b HR.out
        have HNOW := Lib.hid hnow
        have HI2 := Lib.hid (doneM_inv HCF.out HI.out t b)
        have HDN := Lib.hid (done_o (Ow.drew HW.out) HI.out HCF.out t b)
        clear hnow
        generalize doneM s f r p σ t b = σ2 at *
        have h3 := HI2.out.st
        have h3' := HI.out.st
        obtain ⟨st, now, un0, l, out, good⟩ := σ
        obtain ⟨st2, now2, un2, l2, out2, good2⟩ := σ2
        obtain rfl : now2 = mx now (cl t) := HNOW.out
        simp only at hcase h3 h3'
        go_wp2_with (go_at_call 15; refine (clamp_r t _).mono ?_; rintro e w' ⟨rfl, rfl⟩)
        go_region_held3 (fun w' => w'.cell? ⟨(ad0.add (i.toNat * 3)).block, (ad0.add (i.toNat * 3)).off + 1, none⟩ = some (.int .i64 t) ∧ w'.cell? ⟨(ad0.add (i.toNat * 3)).block, (ad0.add (i.toNat * 3)).off + 2, none⟩ = some (.bool b)) (first | exact ⟨hc1, hc2⟩ | exact ⟨hd1, hd2⟩) (first | (go_at_call 13; refine HDN.out.mono ?_; rintro e w3 ⟨rfl, hw3, ho3⟩; have HW3 := Lib.hid hw3; have HB3 := Lib.hid (ho3.below (u := w) (B := w.heap.size) (below_drew HB.out) (by have := HW.out.lt; exact Nat.le_of_lt this) (fun _ h => h)); have hd1 := (HB3.out.cell (World.block_lt_of_cell? w _ HC1.out)).trans HC1.out; have hd2 := (HB3.out.cell (World.block_lt_of_cell? w _ HC2.out)).trans HC2.out; clear hw3 ho3))
        rcases hcase with ⟨rfl, hs1, hun⟩ | ⟨hs1, hs2, hri⟩ | ⟨rfl, rfl, hri⟩
        · have HUN := Lib.hid hun
          clear hun
          rcases h3' with rfl | rfl | rfl
          · go_wp2_with (first | (go_at_call 14; refine (state_o HW3.out HCF.out).mono ?_; rintro e w' ⟨rfl, rfl⟩) | (go_at_call 16; refine (add_r _ _ _).mono ?_; rintro e w' ⟨rfl, rfl⟩))
            go_roundw
            case rel => exact ⟨⟨_, mx now (cl t), un2, l2, out2, good2⟩, i + 1, ad (mx now (cl t)) r, 0, rfl, rfl, rfl, rfl, by go_num, by omega, by omega, HW3, HB3, HI2, Lib.hid ⟨by omega, by omega, fun _ => ⟨HUN.out.symm, rfl⟩, by simp⟩⟩
            case measure => simp [intOf]; omega
          · exact absurd rfl hs1
          · go_wp2_with (first | (go_at_call 14; refine (state_o HW3.out HCF.out).mono ?_; rintro e w' ⟨rfl, rfl⟩) | (go_at_call 16; refine (add_r _ _ _).mono ?_; rintro e w' ⟨rfl, rfl⟩))
            go_roundw
            case rel => exact ⟨⟨_, mx now (cl t), un2, l2, out2, good2⟩, i + 1, ad (mx now (cl t)) r, 0, rfl, rfl, rfl, rfl, by go_num, by omega, by omega, HW3, HB3, HI2, Lib.hid ⟨by omega, by omega, fun _ => ⟨HUN.out.symm, rfl⟩, by simp⟩⟩
            case measure => simp [intOf]; omega
        · have HRI := Lib.hid hri
          clear hri
          rcases h3' with rfl | rfl | rfl
          all_goals
            rcases h3 with rfl | rfl | rfl
            all_goals try exact absurd rfl hs1
            all_goals try exact absurd hs2 (by decide)
            all_goals
              go_wp2_with (first | (go_at_call 14; refine (state_o HW3.out HCF.out).mono ?_; rintro e w' ⟨rfl, rfl⟩) | (go_at_call 16; refine (add_r _ _ _).mono ?_; rintro e w' ⟨rfl, rfl⟩))
              go_roundw
              case rel => exact ⟨⟨_, mx now (cl t), un2, l2, out2, good2⟩, i + 1, un, 0, rfl, rfl, rfl, rfl, by go_num, by omega, by omega, HW3, HB3, HI2, Lib.hid HRI.out⟩
              case measure => simp [intOf]; omega
        · have HRI := Lib.hid hri
          clear hri
          go_wp2_with (first | (go_at_call 14; refine (state_o HW3.out HCF.out).mono ?_; rintro e w' ⟨rfl, rfl⟩) | (go_at_call 16; refine (add_r _ _ _).mono ?_; rintro e w' ⟨rfl, rfl⟩))
          go_roundw
          case rel => exact ⟨⟨_, mx now (cl t), un2, l2, out2, good2⟩, i + 1, un, 0, rfl, rfl, rfl, rfl, by go_num, by omega, by omega, HW3, HB3, HI2, Lib.hid HRI.out⟩
          case measure => simp [intOf]; omega
      · obtain ⟨hnow, hcase⟩ := allow_cases HCF.out HI.out t HR.out
        have HNOW := Lib.hid hnow
        have HI2 := Lib.hid (allowM_inv HCF.out HI.out t)
        have hal := allow_o HW.out HI.out HCF.out t
        clear hnow
        generalize (allowM p σ t).1 = x at *
        generalize (allowM p σ t).2 = σ2 at *
        have HAL := Lib.hid hal
        clear hal
        have h3 := HI2.out.st
        have h3' := HI.out.st
        obtain ⟨st, now, un0, l, out, good⟩ := σ
        obtain ⟨st2, now2, un2, l2, out2, good2⟩ := σ2
        obtain rfl : now2 = mx now (cl t) := HNOW.out
        simp only at hcase h3 h3'
        rcases hcase with ⟨rfl, rfl, hri⟩ | ⟨rfl, rfl, hs1, hth, hri⟩ | ⟨rfl, rfl, rfl, hnu, hth, hri⟩
        · have HRI := Lib.hid hri
          clear hri
          rcases h3 with rfl | rfl | rfl
          all_goals
            go_wp2_with (first | (go_at_call 15; refine (clamp_r t _).mono ?_; rintro e w' ⟨rfl, rfl⟩) | (go_at_call 10; refine HAL.out.mono ?_; rintro e w3 ⟨rfl, hw3, ho3⟩; have HW3 := Lib.hid hw3; have HB3 := Lib.hid (ho3.below (u := w) (B := w.heap.size) HB.out (by have := HW.out.lt; exact Nat.le_of_lt this) (fun _ h => h)); clear hw3 ho3) | (go_at_call 14; refine (state_o HW3.out HCF.out).mono ?_; rintro e w' ⟨rfl, rfl⟩) | (go_at_call 16; refine (add_r _ _ _).mono ?_; rintro e w' ⟨rfl, rfl⟩))
            go_roundw
            case rel => exact ⟨⟨_, mx now (cl t), un2, l2, out2, good2⟩, i + 1, un, th, rfl, rfl, rfl, rfl, by go_num, by omega, by omega, HW3, HB3, HI2, Lib.hid HRI.out⟩
            case measure => simp [intOf]; omega
        · have HRI := Lib.hid hri
          clear hri
          rcases h3 with rfl | rfl | rfl
          · go_wp2_with (first | (go_at_call 15; refine (clamp_r t _).mono ?_; rintro e w' ⟨rfl, rfl⟩) | (go_at_call 10; refine HAL.out.mono ?_; rintro e w3 ⟨rfl, hw3, ho3⟩; have HW3 := Lib.hid hw3; have HB3 := Lib.hid (ho3.below (u := w) (B := w.heap.size) HB.out (by have := HW.out.lt; exact Nat.le_of_lt this) (fun _ h => h)); clear hw3 ho3) | (go_at_call 14; refine (state_o HW3.out HCF.out).mono ?_; rintro e w' ⟨rfl, rfl⟩) | (go_at_call 16; refine (add_r _ _ _).mono ?_; rintro e w' ⟨rfl, rfl⟩))
            go_roundw
            case rel => exact ⟨⟨_, mx now (cl t), un2, l2, out2, good2⟩, i + 1, un, (th + 1), rfl, rfl, rfl, rfl, by go_num, by omega, by omega, HW3, HB3, HI2, Lib.hid HRI.out⟩
            case measure => simp [intOf]; omega
          · exact absurd rfl hs1
          · have hth2 := hth rfl
            have hth3 : ¬ p < th + 1 := by omega
            go_wp2_with (first | (go_at_call 15; refine (clamp_r t _).mono ?_; rintro e w' ⟨rfl, rfl⟩) | (go_at_call 10; refine HAL.out.mono ?_; rintro e w3 ⟨rfl, hw3, ho3⟩; have HW3 := Lib.hid hw3; have HB3 := Lib.hid (ho3.below (u := w) (B := w.heap.size) HB.out (by have := HW.out.lt; exact Nat.le_of_lt this) (fun _ h => h)); clear hw3 ho3) | (go_at_call 14; refine (state_o HW3.out HCF.out).mono ?_; rintro e w' ⟨rfl, rfl⟩) | (go_at_call 16; refine (add_r _ _ _).mono ?_; rintro e w' ⟨rfl, rfl⟩))
            go_roundw
            case rel => exact ⟨⟨_, mx now (cl t), un2, l2, out2, good2⟩, i + 1, un, (th + 1), rfl, rfl, rfl, rfl, by go_num, by omega, by omega, HW3, HB3, HI2, Lib.hid HRI.out⟩
            case measure => simp [intOf]; omega
        · have HRI := Lib.hid hri
          have hth3 : ¬ p < th + 1 := by omega
          clear hri
          go_wp2_with (first | (go_at_call 15; refine (clamp_r t _).mono ?_; rintro e w' ⟨rfl, rfl⟩) | (go_at_call 10; refine HAL.out.mono ?_; rintro e w3 ⟨rfl, hw3, ho3⟩; have HW3 := Lib.hid hw3; have HB3 := Lib.hid (ho3.below (u := w) (B := w.heap.size) HB.out (by have := HW.out.lt; exact Nat.le_of_lt this) (fun _ h => h)); clear hw3 ho3) | (go_at_call 14; refine (state_o HW3.out HCF.out).mono ?_; rintro e w' ⟨rfl, rfl⟩) | (go_at_call 16; refine (add_r _ _ _).mono ?_; rintro e w' ⟨rfl, rfl⟩))
          go_roundw
          case rel => exact ⟨⟨_, mx now (cl t), un2, l2, out2, good2⟩, i + 1, un, 1, rfl, rfl, rfl, rfl, by go_num, by omega, by omega, HW3, HB3, HI2, Lib.hid HRI.out⟩
          case measure => simp [intOf]; omega
    all_goals
      go_wp2_with (go_at_call 9; refine (awake_p _).mono ?_; rintro e w5 ⟨rfl, ho5⟩; have HO5 := Lib.hid ho5; clear ho5)
      go_ret
      exact ⟨rfl, HO5.out.below HB.out (Nat.le_of_lt HW.out.lt) (fun _ h => h.elim)⟩

theorem rests_walk (s f r p : Int) (A : Option Addr) (len cap : Nat) (w : World) (hd : Deeds w A len) (hlen : len ≤ maxLen) :
    Calls Try.prog 4 #[.int .i64 s, .int .i64 f, .int .i64 r, .int .i64 p, .slice A len cap] w fun e w' => e = .returned (.bool true) ∧ Below w.heap.size w w' := by
  by_cases h : Cfg s f r p
  · exact rests_yes s f r p A len cap w h hd hlen
  · exact rests_no s f r p A len cap w h

end Go.Proofs.Ytocbnfpnbgpfjaa.Brk

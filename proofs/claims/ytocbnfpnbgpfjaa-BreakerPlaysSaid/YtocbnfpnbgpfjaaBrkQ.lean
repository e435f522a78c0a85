/- BreakerPlays: the walk of the law. -/
import Derived.Test.YtocbnfpnbgpfjaaBrkP
set_option linter.unusedVariables false
set_option linter.unusedSimpArgs false
namespace Go.Proofs.Ytocbnfpnbgpfjaa.Brk
open Go.RowKit Go.Proofs.Ytocbnfpnbgpfjaa.Base Go.Proofs.YtocbnfpnbgpfjaaW.PrintWords Go.Proofs.YtocbnfpnbgpfjaaW.PrintMore
attribute [local go_sem] max2_mx min2_mn max_two min_two max_three min_three max_four min_four

theorem plays_no (s f r p : Int) (A : Option Addr) (len cap : Nat) (w : World) (h : ¬ Cfg s f r p) :
    Calls Try.prog 3 #[.int .i64 s, .int .i64 f, .int .i64 r, .int .i64 p, .slice A len cap] w fun e w' => e = .returned (.bool true) ∧ Below w.heap.size w w' := by
  go_enter Try.func3, Try.ntmps3
  go_wp2_with (first | (go_at_call 7; refine (new_bad _ _ _ _ _ h).mono ?_; rintro e w1 ⟨rfl, rfl⟩) | (go_at_call 8; refine (new_r_bad _ _ _ _ _ h).mono ?_; rintro e w1 ⟨rfl, rfl⟩) | (go_at_call 9; refine (awake_p _).mono ?_; rintro e w5 ⟨rfl, ho5⟩; have HO5 := Lib.hid ho5; clear ho5))
  go_ret
  exact ⟨rfl, HO5.out.below (Below.refl _ _) (Nat.le_refl _) (fun _ h => h.elim)⟩

set_option maxHeartbeats 8000000 in
set_option maxRecDepth 100000 in
theorem plays_yes (s f r p : Int) (A : Option Addr) (len cap : Nat) (w : World) (hc : Cfg s f r p) (hd : Deeds w A len) (hlen : len ≤ maxLen) :
    Calls Try.prog 3 #[.int .i64 s, .int .i64 f, .int .i64 r, .int .i64 p, .slice A len cap] w fun e w' => e = .returned (.bool true) ∧ Below w.heap.size w w' := by
  unfold maxLen at hlen
  have HD := Lib.hid hd
  clear hd
  have HCF := Lib.hid hc
  clear hc
  go_enter Try.func3, Try.ntmps3
  go_wp2_with fail
  refine (new_o _ HCF.out).mono ?_
  rintro e w1 ⟨rfl, h1, o1⟩
  have HW1 := Lib.hid h1
  have HB1 : Hid (Below w.heap.size w w1) := Lib.hid (o1.below (Below.refl _ _) (Nat.le_refl _) (fun _ h => h.elim))
  clear h1 o1
  go_wp2_with fail
  refine (new_r _ _ _ _ _ HCF.out).mono ?_
  rintro e w2 ⟨rfl, h2, o2⟩
  have HT2 : Hid (Two w2 w.heap.size w.heap.size w1.heap.size s f r p ⟨0, 0, 0, [], 0, 0⟩ ⟨0, 0, 0, [], 0, 0⟩) := Lib.hid (by
    obtain ⟨hg, v, hb, hl⟩ := HW1.out
    have hv : v = .slice none 0 0 ∨ True := .inr trivial
    exact ⟨hg, Nat.le_of_lt HW1.out.lt, v, .slice none 0 0, ⟨o2.blk hb (fun h => h), hl.keep (fun k _ hlt => o2.block k hlt (fun h => h))⟩, ⟨h2, LastB.nil _ _⟩, fun k _ => by simp [Value.ownBlock]⟩)
  have HB2 : Hid (Below w.heap.size w w2) := Lib.hid (o2.below HB1.out (Nat.le_of_lt HW1.out.lt) (fun _ h => h.elim))
  have HI1 : Hid (Inv s p ⟨0, 0, 0, [], 0, 0⟩) := Lib.hid (inv_new HCF.out)
  have HR1 : Hid (Rel s ⟨0, 0, 0, [], 0, 0⟩ ⟨0, 0, 0, [], 0, 0⟩) := Lib.hid ⟨rfl, rfl, rfl, by simp [lastS], fun _ => rfl, fun _ => ⟨rfl, rfl⟩⟩
  clear h2 o2
  generalize w1.heap.size = h at *
  go_wp2
  go_loopw [14] (fun vi wr => ∃ (σ ρ : St) (i : Int), vi = .int .i64 i ∧ 0 ≤ i ∧ i ≤ 80 ∧ Hid (Two wr w.heap.size w.heap.size h s f r p σ ρ) ∧ Hid (Below w.heap.size w wr) ∧ Hid (Inv s p σ) ∧ Hid (Rel s σ ρ) ∧ Hid ((ρ.l.length : Int) ≤ i)) (fun vi _ => (80 - intOf vi).toNat)
  case atStart => exact ⟨_, _, 0, rfl, by omega, by omega, HT2, HB2, HI1, HR1, Lib.hid (by simp)⟩
  case round =>
    obtain ⟨σ, ρ, i, rfl, hi0, hi1, HT, HB, HI, HR, HL⟩ := hrel
    have hgo : (i < (len : Int) ∧ i < 80) ∨ (i < (len : Int) ∧ ¬ i < 80) ∨ ¬ i < (len : Int) := by omega
    rcases hgo with ⟨hlt, h80⟩ | ⟨hlt, h80⟩ | hlt
    · obtain ⟨ad0, k, t, b, hA, hk, ht, hb⟩ := HD.out i hi0 hlt
      cases hA
      have HC0 := Lib.hid hk
      have HC1 := Lib.hid ht
      have HC2 := Lib.hid hb
      clear hk ht hb
      have hc0 := (HB.out.cell (World.block_lt_of_cell? w _ HC0.out)).trans HC0.out
      have hc1 := (HB.out.cell (World.block_lt_of_cell? w _ HC1.out)).trans HC1.out
      have hc2 := (HB.out.cell (World.block_lt_of_cell? w _ HC2.out)).trans HC2.out
      have HI3 := Lib.hid (show ρ.st = 0 ∨ ρ.st = 1 ∨ ρ.st = 2 from HR.out.st ▸ HI.out.st)
      have HIO : Hid (ρ.st = 2 → 0 ≤ ρ.out) := Lib.hid (fun h2 => by have h4 := HR.out.st; have := (HR.out.half (by rw [← h4]; exact h2)).1; have := HI.out.out0; omega)
      have HIG : Hid (ρ.st = 2 → 0 ≤ ρ.good ∧ ρ.good < p) := Lib.hid (fun h2 => by have h4 := HR.out.st; have := (HR.out.half (by rw [← h4]; exact h2)).2; have := HI.out.good0; have := HI.out.good1; omega)
      have hkind : (k = 0 ∨ k = 1) ∨ (k = 2 ∨ k = 3) ∨ (¬ k = 0 ∧ ¬ k = 1 ∧ ¬ k = 2 ∧ ¬ k = 3) := by omega
      rcases hkind with hk | hk | ⟨hk0, hk1, hk2, hk3⟩
      · obtain ⟨he, hr, hl⟩ := rel_allow HCF.out HI.out HR.out t
        have HR2 := Lib.hid hr
        have HL2 : Hid (((allowR p ρ t).2.l.length : Int) ≤ i + 1) := Lib.hid (by have := HL.out; omega)
        have HI2 := Lib.hid (allowM_inv HCF.out HI.out t)
        have HA : Hid (∀ w0 ρ0, Two w0 w.heap.size w.heap.size h s f r p σ ρ0 → Calls Try.prog 10 #[.pointer (some ⟨w.heap.size, 0, none⟩), .int .i64 t] w0 fun e w' => e = .returned (.bool (allowM p σ t).1) ∧ Two w' w.heap.size w.heap.size h s f r p (allowM p σ t).2 ρ0 ∧ Only (fun k => w.heap.size ≤ k) w0 w') := Lib.hid (fun w0 ρ0 H => two_allow H HI.out HCF.out t)
        have HAR : Hid (∀ w0 σ0, Two w0 w.heap.size w.heap.size h s f r p σ0 ρ → Calls Try.prog 11 #[.pointer (some ⟨h, 0, none⟩), .int .i64 t] w0 fun e w' => e = .returned (.bool (allowM p σ t).1) ∧ Two w' w.heap.size w.heap.size h s f r p σ0 (allowR p ρ t).2 ∧ Only (fun k => w.heap.size ≤ k) w0 w') := Lib.hid (fun w0 σ0 H => he ▸ two_allow_r H HI3.out HIO.out HCF.out t)
        generalize (allowM p σ t).1 = x at *
        generalize (allowM p σ t).2 = σ2 at *
        generalize (allowR p ρ t).2 = ρ2 at *
        clear he hr hl
        obtain ⟨st2, hst2⟩ : ∃ st2, st2 = σ2.st := ⟨_, rfl⟩
        have HS2 := Lib.hid hst2
        clear hst2
        rcases hk with rfl | rfl
        all_goals
          go_wp2
          go_region_held3 (fun w' => w'.cell? ⟨(ad0.add (i.toNat * 3)).block, (ad0.add (i.toNat * 3)).off + 1, none⟩ = some (.int .i64 t)) (first | exact hc1 | exact hd1 | exact he1) (first | (go_at_call 10; refine (HA.out _ _ (by exact (Two.drew HT.out))).mono ?_; rintro e w3 ⟨rfl, hw3, ho3⟩; have HW3 := Lib.hid hw3; have HB3 := Lib.hid (ho3.below (u := w) (B := w.heap.size) (below_drew HB.out) HT.out.lt (fun _ h => h)); have hd1 := (HB3.out.cell (World.block_lt_of_cell? w _ HC1.out)).trans HC1.out; clear hw3 ho3) | (go_at_call 11; refine (HAR.out _ _ (by exact HW3.out)).mono ?_; rintro e w4 ⟨rfl, hw4, ho4⟩; have HW4 := Lib.hid hw4; have HB4 := Lib.hid (ho4.below (u := w) (B := w.heap.size) HB3.out HW3.out.lt (fun _ h => h)); have he1 := (HB4.out.cell (World.block_lt_of_cell? w _ HC1.out)).trans HC1.out; clear hw4 ho4))
          have hz4 : w4.cell? ⟨h, 4, none⟩ = some (.int .i64 st2) := HW4.out.cell4 (by rw [HR2.out.st, HS2.out])
          have HSS : Hid (∀ m, Calls Try.prog 14 #[.pointer (some ⟨w.heap.size, 0, none⟩)] (w4.drewN m) fun e w' => e = .returned (.int .i64 st2) ∧ w' = w4.drewN m) := Lib.hid (fun m => (two_state (w := w4.drewN m) (by exact HW4.out) HCF.out HS2.out.symm).mono fun _ _ h => ⟨h.1, h.2.symm⟩)
          go_wp2
          go_quiet ((go_at_call 14; exact Calls.quiet_of_same (HSS.out _)))
          go_wp2
          go_roundw
          case rel => exact ⟨σ2, ρ2, i + 1, by go_num, by omega, by omega, Lib.hid HW4.out, Lib.hid (((Only.refl (fun _ => False) _).drewN _).below HB4.out HW4.out.lt (fun _ h => h.elim)), HI2, HR2, HL2⟩
          case measure => simp [intOf]; omega
      · obtain ⟨hr, hl⟩ := rel_done HCF.out HI.out HR.out t b
        have HR2 := Lib.hid hr
        have HL2 : Hid (((doneR s f r p ρ t b).l.length : Int) ≤ i + 1) := Lib.hid (by have := HL.out; omega)
        have HI2 := Lib.hid (doneM_inv HCF.out HI.out t b)
        have HA : Hid (∀ w0 ρ0, Two w0 w.heap.size w.heap.size h s f r p σ ρ0 → Calls Try.prog 13 #[.pointer (some ⟨w.heap.size, 0, none⟩), .int .i64 t, .bool b] w0 fun e w' => e = .returned (.int .i64 0) ∧ Two w' w.heap.size w.heap.size h s f r p (doneM s f r p σ t b) ρ0 ∧ Only (fun k => w.heap.size ≤ k) w0 w') := Lib.hid (fun w0 ρ0 H => two_done H HI.out HCF.out t b)
        have HAR : Hid (∀ w0 σ0, Two w0 w.heap.size w.heap.size h s f r p σ0 ρ → Calls Try.prog 12 #[.pointer (some ⟨h, 0, none⟩), .int .i64 t, .bool b] w0 fun e w' => e = .returned (.tuple #[]) ∧ Two w' w.heap.size w.heap.size h s f r p σ0 (doneR s f r p ρ t b) ∧ Only (fun k => w.heap.size ≤ k) w0 w') := Lib.hid (fun w0 σ0 H => two_done_r H HI3.out HIG.out (by have := HL.out; omega) HCF.out t b)
        generalize doneM s f r p σ t b = σ2 at *
        generalize doneR s f r p ρ t b = ρ2 at *
        clear hr hl
        obtain ⟨st2, hst2⟩ : ∃ st2, st2 = σ2.st := ⟨_, rfl⟩
        have HS2 := Lib.hid hst2
        clear hst2
        rcases hk with rfl | rfl
        all_goals
          go_wp2
          go_region_held3 (fun w' => w'.cell? ⟨(ad0.add (i.toNat * 3)).block, (ad0.add (i.toNat * 3)).off + 1, none⟩ = some (.int .i64 t) ∧ w'.cell? ⟨(ad0.add (i.toNat * 3)).block, (ad0.add (i.toNat * 3)).off + 2, none⟩ = some (.bool b)) (first | exact ⟨hc1, hc2⟩ | exact ⟨hd1, hd2⟩) (first | (go_at_call 12; refine (HAR.out _ _ (by exact (Two.drew HT.out))).mono ?_; rintro e w3 ⟨rfl, hw3, ho3⟩; have HW3 := Lib.hid hw3; have HB3 := Lib.hid (ho3.below (u := w) (B := w.heap.size) (below_drew HB.out) HT.out.lt (fun _ h => h)); have hd1 := (HB3.out.cell (World.block_lt_of_cell? w _ HC1.out)).trans HC1.out; have hd2 := (HB3.out.cell (World.block_lt_of_cell? w _ HC2.out)).trans HC2.out; clear hw3 ho3))
          go_wp2
          go_region_held3 (fun w' => w'.cell? ⟨(ad0.add (i.toNat * 3)).block, (ad0.add (i.toNat * 3)).off + 1, none⟩ = some (.int .i64 t) ∧ w'.cell? ⟨(ad0.add (i.toNat * 3)).block, (ad0.add (i.toNat * 3)).off + 2, none⟩ = some (.bool b)) (first | exact ⟨hd1, hd2⟩ | exact ⟨he1, he2⟩) (first | (go_at_call 13; refine (HA.out _ _ (by exact (Two.drew HW3.out))).mono ?_; rintro e w4 ⟨rfl, hw4, ho4⟩; have HW4 := Lib.hid hw4; have HB4 := Lib.hid (ho4.below (u := w) (B := w.heap.size) (below_drew HB3.out) HW3.out.lt (fun _ h => h)); have he1 := (HB4.out.cell (World.block_lt_of_cell? w _ HC1.out)).trans HC1.out; have he2 := (HB4.out.cell (World.block_lt_of_cell? w _ HC2.out)).trans HC2.out; clear hw4 ho4))
          have hz4 : w4.cell? ⟨h, 4, none⟩ = some (.int .i64 st2) := HW4.out.cell4 (by rw [HR2.out.st, HS2.out])
          have HSS : Hid (∀ m, Calls Try.prog 14 #[.pointer (some ⟨w.heap.size, 0, none⟩)] (w4.drewN m) fun e w' => e = .returned (.int .i64 st2) ∧ w' = w4.drewN m) := Lib.hid (fun m => (two_state (w := w4.drewN m) (by exact HW4.out) HCF.out HS2.out.symm).mono fun _ _ h => ⟨h.1, h.2.symm⟩)
          go_wp2
          go_quiet ((go_at_call 14; exact Calls.quiet_of_same (HSS.out _)))
          go_wp2
          go_roundw
          case rel => exact ⟨σ2, ρ2, i + 1, by go_num, by omega, by omega, Lib.hid HW4.out, Lib.hid (((Only.refl (fun _ => False) _).drewN _).below HB4.out HW4.out.lt (fun _ h => h.elim)), HI2, HR2, HL2⟩
          case measure => simp [intOf]; omega
      · obtain ⟨st2, hst2⟩ : ∃ st2, st2 = σ.st := ⟨_, rfl⟩
        have HS2 := Lib.hid hst2
        clear hst2
        have hz4 : wr.cell? ⟨h, 4, none⟩ = some (.int .i64 st2) := HT.out.cell4 (by rw [HR.out.st, HS2.out])
        have HSS : Hid (∀ m, Calls Try.prog 14 #[.pointer (some ⟨w.heap.size, 0, none⟩)] (wr.drewN m) fun e w' => e = .returned (.int .i64 st2) ∧ w' = wr.drewN m) := Lib.hid (fun m => (two_state (w := wr.drewN m) (by exact HT.out) HCF.out HS2.out.symm).mono fun _ _ h => ⟨h.1, h.2.symm⟩)
        go_wp2
        go_quiet ((go_at_call 14; exact Calls.quiet_of_same (HSS.out _)))
        go_wp2
        go_roundw
        case rel => exact ⟨σ, ρ, i + 1, by go_num, by omega, by omega, Lib.hid HT.out, Lib.hid (((Only.refl (fun _ => False) _).drewN _).below HB.out HT.out.lt (fun _ h => h.elim)), HI, HR, (Lib.hid (by have := HL.out; omega))⟩
        case measure => simp [intOf]; omega
    all_goals
      go_wp2_with (go_at_call 9; refine (awake_p _).mono ?_; rintro e w5 ⟨rfl, ho5⟩; have HO5 := Lib.hid ho5; clear ho5)
      go_ret
      exact ⟨rfl, HO5.out.below HB.out HT.out.lt (fun _ h => h.elim)⟩

theorem plays_walk (s f r p : Int) (A : Option Addr) (len cap : Nat) (w : World) (hd : Deeds w A len) (hlen : len ≤ maxLen) :
    Calls Try.prog 3 #[.int .i64 s, .int .i64 f, .int .i64 r, .int .i64 p, .slice A len cap] w fun e w' => e = .returned (.bool true) ∧ Below w.heap.size w w' := by
  by_cases h : Cfg s f r p
  · exact plays_yes s f r p A len cap w h hd hlen
  · exact plays_no s f r p A len cap w h

end Go.Proofs.Ytocbnfpnbgpfjaa.Brk

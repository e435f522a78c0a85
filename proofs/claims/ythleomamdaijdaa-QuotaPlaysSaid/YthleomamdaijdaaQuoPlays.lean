/- QuotaPlays: the walk of the law over the contracts: whatever is taken and asked, the program answers as the reference does. -/
import Derived.Test.YthleomamdaijdaaQuoB
import Derived.Test.YthleomamdaijdaaArgs
set_option linter.unusedVariables false
set_option linter.unusedSimpArgs false
namespace Go.Proofs.Ythleomamdaijdaa.Quo
open Go.RowKit Go.Proofs.Ythleomamdaijdaa.Base Go.Proofs.YthleomamdaijdaaW.PrintWords Go.Proofs.YthleomamdaijdaaW.PrintMore
attribute [local go_sem] max2_mx min2_mn max_two min_two max_three min_three max_four min_four

/-- Deeds: at each index two numbers. -/
def Deeds (w : World) (A : Option Addr) (len : Nat) : Prop :=
  ∀ i : Int, 0 ≤ i → i < len → ∃ a K V, A = some a ∧ w.cell? (a.add (i.toNat * 2)) = some (.int .i64 K) ∧ w.cell? ⟨(a.add (i.toNat * 2)).block, (a.add (i.toNat * 2)).off + 1, none⟩ = some (.int .i64 V)

theorem cells51 : Try.prog.cellsOf 51 = 2 := by kernel_rfl

theorem deeds_of {w : World} {A : Option Addr} {len : Nat} (h : ∀ i, i < len → ∃ a, A = some a ∧ ∀ o k, (o, k) ∈ [(0, Args.Bs.int .i64), (1, Args.Bs.int .i64)] → ∃ v, w.cell? (a.add (i * Try.prog.cellsOf 51 + o)) = some v ∧ k.fit v) : Deeds w A len := by
  intro i h0 h1
  obtain ⟨a, hA, hc⟩ := h i.toNat (by omega)
  rw [cells51] at hc
  obtain ⟨v0, hv0, x0, rfl, _⟩ := hc 0 (.int .i64) (by simp)
  obtain ⟨v1, hv1, x1, rfl, _⟩ := hc 1 (.int .i64) (by simp)
  exact ⟨a, x0, x1, hA, hv0, by rw [← add_field a (i.toNat * 2) 1 (by omega)]; exact hv1⟩

set_option maxHeartbeats 8000000 in
set_option maxRecDepth 100000 in
theorem plays_yes (p b : Int) (A : Option Addr) (len cap : Nat) (w : World) (hp1 : 1 ≤ p) (hp2 : p ≤ 1000000) (hb1 : 1 ≤ b) (hb2 : b ≤ 1000) (hd : Deeds w A len) (hlen : len ≤ maxLen) :
    Calls Try.prog 10 #[.int .i64 p, .int .i64 b, .slice A len cap] w fun e w' => e = .returned (.bool true) ∧ Below w.heap.size w w' := by
  unfold maxLen at hlen
  have HD := Lib.hid hd
  have HI0 := Lib.hid (inv_new hp1 hp2 hb1 hb2)
  clear hd
  go_enter Try.func10, Try.ntmps10
  go_wp2_with (first | (go_at_call 36; refine (new_ok p b _ ⟨hp1, hp2⟩ ⟨hb1, hb2⟩).mono ?_; rintro e w1 ⟨rfl, hq1, ho1⟩; have HQ1 := Lib.hid hq1; have HO1 := Lib.hid ho1; clear hq1 ho1) | (go_at_call 37; refine (right_t p b _ hp1 hp2 hb1 hb2).mono ?_; rintro e w2 ⟨rfl, hw2⟩; obtain rfl := hw2.symm))
  obtain ⟨g, hg⟩ : ∃ g, g = w.heap.size := ⟨_, rfl⟩
  rw [← hg]
  have HG := Lib.hid hg
  have HQ1' : Hid (Q57 w1 g p b 0 0) := Lib.hid (by rw [hg]; exact HQ1.out)
  have HB1 : Hid (Below w.heap.size w w1) := Lib.hid (HO1.out.below (Below.refl _ _) (Nat.le_refl _) (fun _ h => h.elim))
  have hgw : w.heap.size ≤ g := by omega
  clear hg HQ1 HO1
  obtain ⟨h, hh⟩ : ∃ h, h = w1.heap.size := ⟨_, rfl⟩
  rw [← hh]
  have HR1 : Hid (Q49 (w1.alloc (.cells #[.int .i64 p, .int .i64 b, .int .i64 0, .int .i64 0] 49)) h p b 0 0) := Lib.hid (by rw [hh]; exact heap_alloc_new w1 _)
  have hgw1 : g < w1.heap.size := blk_lt HQ1'.out
  have HNE : Hid (h ≠ g) := Lib.hid (by omega)
  have hhw : w.heap.size ≤ h := by have := HB1.out.size; omega
  have HQ1a : Hid (Q57 (w1.alloc (.cells #[.int .i64 p, .int .i64 b, .int .i64 0, .int .i64 0] 49)) g p b 0 0) := Lib.hid (blk_alloc HQ1'.out _)
  have HB1a : Hid (Below w.heap.size w (w1.alloc (.cells #[.int .i64 p, .int .i64 b, .int .i64 0, .int .i64 0] 49))) := Lib.hid (below_alloc HB1.out _)
  clear hh hgw1
  go_loopw [12] (fun vi wr => ∃ (n m i : Int), vi = .int .i64 i ∧ 0 ≤ i ∧ i ≤ 60 ∧ Hid (Inv p b n m) ∧ Hid (Q57 wr g p b n m) ∧ Hid (Q49 wr h p b n m) ∧ Hid (Below w.heap.size w wr)) (fun vi _ => (60 - intOf vi).toNat)
  case atStart => exact ⟨0, 0, 0, rfl, by omega, by omega, HI0, HQ1a, HR1, HB1a⟩
  case round =>
    obtain ⟨n, m, i, rfl, hi0, hi1, HI, HQ, HRf, HB⟩ := hrel
    have hgo : (i < (len : Int) ∧ i < 60) ∨ (i < (len : Int) ∧ ¬ i < 60) ∨ ¬ i < (len : Int) := by omega
    rcases hgo with ⟨hlt, h60⟩ | ⟨hlt, h60⟩ | hlt
    · obtain ⟨ad, k, x, hA, hk, hx⟩ := HD.out i hi0 hlt
      cases hA
      have HC0 := Lib.hid hk
      have HC1 := Lib.hid hx
      clear hk hx
      have hc0 := (HB.out.cell (World.block_lt_of_cell? w _ HC0.out)).trans HC0.out
      have hc1 := (HB.out.cell (World.block_lt_of_cell? w _ HC1.out)).trans HC1.out
      have hcase : k = 0 ∨ k = 1 ∨ k = 2 ∨ k = 3 ∨ (k ≠ 0 ∧ k ≠ 1 ∧ k ≠ 2 ∧ k ≠ 3) := by omega
      have HTR : Hid (∀ w, Q49 w h p b n m → Calls Try.prog 41 #[.pointer (some ⟨h, 0, none⟩), .int .i64 x] w fun e w' => e = .returned (.tuple #[.bool (tkb p b n m x), .int .i64 (tkw p b n m x)]) ∧ Q49 w' h p b (ovn n x) (tkm p b n m x) ∧ Only (fun i => i = h) w w') :=
        Lib.hid (fun w hq => by obtain ⟨e1, e2, e3⟩ := rt_same HI.out x; have := take_r h p b n m x w hq; rw [e1, e2, e3] at this; exact this)
      have HI2 := Lib.hid (tk_facts HI.out x).2.2.2
      have HI3 : Hid (Inv p b (ovn n x) m) := Lib.hid ⟨hp1, hp2, hb1, hb2, by have := ovn_bounds x HI.out.n1 HI.out.n2; have := HI.out.n1; omega, (ovn_bounds x HI.out.n1 HI.out.n2).2.2, HI.out.m1, by have := ovn_bounds x HI.out.n1 HI.out.n2; have := HI.out.m2; omega⟩
      rcases hcase with rfl | rfl | rfl | rfl | hk
      · go_wp2_with (first | (go_at_call 38; refine (take_p g p b n m x _ HQ.out).mono ?_; rintro e w2 ⟨rfl, hq2, ho2⟩; have HQ2 := Lib.hid hq2; have HB2 := Lib.hid (ho2.below HB.out HB.out.size (fun _ h => by omega)); have HR2 := Lib.hid (ho2.blk HRf.out (fun e => HNE.out e)); have hc2 := (HB2.out.cell (World.block_lt_of_cell? w _ HC1.out)).trans HC1.out; clear hq2 ho2) | (go_at_call 41; refine (HTR.out _ HR2.out).mono ?_; rintro e w3 ⟨rfl, hr3, ho3⟩; have HR3 := Lib.hid hr3; have HB3 := Lib.hid (ho3.below HB2.out HB2.out.size (fun _ h => by omega)); have HQ3 := Lib.hid (ho3.blk HQ2.out (fun e => HNE.out e.symm)); clear hr3 ho3))
        go_roundw
        case rel => exact ⟨ovn n x, tkm p b n m x, i + 1, by go_num, by omega, by omega, HI2, HQ3, HR3, HB3⟩
        case measure => simp [intOf]; omega
      · go_wp2_with (first | (go_at_call 38; refine (take_p g p b n m x _ HQ.out).mono ?_; rintro e w2 ⟨rfl, hq2, ho2⟩; have HQ2 := Lib.hid hq2; have HB2 := Lib.hid (ho2.below HB.out HB.out.size (fun _ h => by omega)); have HR2 := Lib.hid (ho2.blk HRf.out (fun e => HNE.out e)); have hc2 := (HB2.out.cell (World.block_lt_of_cell? w _ HC1.out)).trans HC1.out; clear hq2 ho2) | (go_at_call 41; refine (HTR.out _ HR2.out).mono ?_; rintro e w3 ⟨rfl, hr3, ho3⟩; have HR3 := Lib.hid hr3; have HB3 := Lib.hid (ho3.below HB2.out HB2.out.size (fun _ h => by omega)); have HQ3 := Lib.hid (ho3.blk HQ2.out (fun e => HNE.out e.symm)); clear hr3 ho3))
        go_roundw
        case rel => exact ⟨ovn n x, tkm p b n m x, i + 1, by go_num, by omega, by omega, HI2, HQ3, HR3, HB3⟩
        case measure => simp [intOf]; omega
      · go_wp2_with (first | (go_at_call 38; refine (take_p g p b n m x _ HQ.out).mono ?_; rintro e w2 ⟨rfl, hq2, ho2⟩; have HQ2 := Lib.hid hq2; have HB2 := Lib.hid (ho2.below HB.out HB.out.size (fun _ h => by omega)); have HR2 := Lib.hid (ho2.blk HRf.out (fun e => HNE.out e)); have hc2 := (HB2.out.cell (World.block_lt_of_cell? w _ HC1.out)).trans HC1.out; clear hq2 ho2) | (go_at_call 41; refine (HTR.out _ HR2.out).mono ?_; rintro e w3 ⟨rfl, hr3, ho3⟩; have HR3 := Lib.hid hr3; have HB3 := Lib.hid (ho3.below HB2.out HB2.out.size (fun _ h => by omega)); have HQ3 := Lib.hid (ho3.blk HQ2.out (fun e => HNE.out e.symm)); clear hr3 ho3))
        go_roundw
        case rel => exact ⟨ovn n x, tkm p b n m x, i + 1, by go_num, by omega, by omega, HI2, HQ3, HR3, HB3⟩
        case measure => simp [intOf]; omega
      · go_wp2
        go_region_held3 (fun w' => w'.cell? ⟨(ad.add (i.toNat * 2)).block, (ad.add (i.toNat * 2)).off + 1, none⟩ = some (.int .i64 x)) (first | exact hc1 | exact hc2 | exact hc3) (first | (go_at_call 39; refine (left_q g p b n m x _ HI.out (by exact HQ.out)).mono ?_; rintro e w2 ⟨rfl, hq2, ho2⟩; have HQ2 := Lib.hid hq2; have HB2 := Lib.hid (ho2.below (B := w.heap.size) (u := w) (below_drew HB.out) (HB.out.size) (fun _ h => by omega)); have HR2 : Hid (Q49 w2 h p b n m) := Lib.hid (ho2.blk HRf.out (fun e => HNE.out e)); have hc2 := (HB2.out.cell (World.block_lt_of_cell? w _ HC1.out)).trans HC1.out; clear hq2 ho2) | (go_at_call 42; refine (left_r h p b n m x _ HI.out (by exact HRf.out)).mono ?_; rintro e w2 ⟨rfl, hr2, ho2⟩; have HR2 := Lib.hid hr2; have HB2 := Lib.hid (ho2.below (B := w.heap.size) (u := w) (below_drew HB.out) (HB.out.size) (fun _ h => by omega)); have HQ2 : Hid (Q57 w2 g p b n m) := Lib.hid (ho2.blk HQ.out (fun e => HNE.out e.symm)); have hc2 := (HB2.out.cell (World.block_lt_of_cell? w _ HC1.out)).trans HC1.out; clear hr2 ho2) | (go_at_call 42; refine (left_r h p b n m x _ HI.out (by exact HR2.out)).mono ?_; rintro e w3 ⟨rfl, hr3, ho3⟩; have HR3 := Lib.hid hr3; have HB3 := Lib.hid (ho3.below HB2.out HB2.out.size (fun _ h => by omega)); have HQ3 := Lib.hid (ho3.blk HQ2.out (fun e => HNE.out e.symm)); have hc3 := (HB3.out.cell (World.block_lt_of_cell? w _ HC1.out)).trans HC1.out; clear hr3 ho3) | (go_at_call 39; refine (left_q g p b n m x _ HI.out (by exact HQ2.out)).mono ?_; rintro e w3 ⟨rfl, hq3, ho3⟩; have HQ3 := Lib.hid hq3; have HB3 := Lib.hid (ho3.below HB2.out HB2.out.size (fun _ h => by omega)); have HR3 := Lib.hid (ho3.blk HR2.out (fun e => HNE.out e)); have hc3 := (HB3.out.cell (World.block_lt_of_cell? w _ HC1.out)).trans HC1.out; clear hq3 ho3))
        all_goals
          go_wp2
          go_roundw
          case rel => exact ⟨ovn n x, m, i + 1, by go_num, by omega, by omega, HI3, HQ3, HR3, HB3⟩
          case measure => simp [intOf]; omega
      · have k0 : (k == 0) = false := by simpa using hk.1
        have k1 : (k == 1) = false := by simpa using hk.2.1
        have k2 : (k == 2) = false := by simpa using hk.2.2.1
        have k3 : (k == 3) = false := by simpa using hk.2.2.2
        clear hk
        go_wp2
        go_roundw
        case rel => exact ⟨n, m, i + 1, by go_num, by omega, by omega, HI, HQ, HRf, HB⟩
        case measure => simp [intOf]; omega
    all_goals
      go_wp2_with (go_at_call 40; refine (awake_p _).mono ?_; rintro e w5 ⟨rfl, ho5⟩; have HO5 := Lib.hid ho5; clear ho5)
      go_ret
      exact ⟨rfl, HO5.out.below HB.out HB.out.size (fun _ h => h.elim)⟩

theorem plays_no (p b : Int) (A : Option Addr) (len cap : Nat) (w : World) (h : ¬ (1 ≤ p ∧ p ≤ 1000000 ∧ 1 ≤ b ∧ b ≤ 1000)) :
    Calls Try.prog 10 #[.int .i64 p, .int .i64 b, .slice A len cap] w fun e w' => e = .returned (.bool true) ∧ Below w.heap.size w w' := by
  have HN := Lib.hid h
  clear h
  go_enter Try.func10, Try.ntmps10
  go_wp2_with (first | (go_at_call 36; refine (new_no p b _ HN.out).mono ?_; rintro e w1 ⟨rfl, hw1⟩; obtain rfl := hw1.symm) | (go_at_call 37; refine (right_f p b _ HN.out).mono ?_; rintro e w2 ⟨rfl, hw2⟩; obtain rfl := hw2.symm) | (go_at_call 38; refine (take_nil _ _).mono ?_; rintro e w2 ⟨rfl, hw2⟩; obtain rfl := hw2.symm) | (go_at_call 39; refine (left_nil _ _).mono ?_; rintro e w2 ⟨rfl, hw2⟩; obtain rfl := hw2.symm) | (go_at_call 40; refine (awake_p _).mono ?_; rintro e w5 ⟨rfl, ho5⟩; have HO5 := Lib.hid ho5; clear ho5))
  go_ret
  exact ⟨rfl, HO5.out.below (Below.refl _ _) (Nat.le_refl _) (fun _ h => h.elim)⟩

theorem plays_walk (p b : Int) (A : Option Addr) (len cap : Nat) (w : World) (hd : Deeds w A len) (hlen : len ≤ maxLen) :
    Calls Try.prog 10 #[.int .i64 p, .int .i64 b, .slice A len cap] w fun e w' => e = .returned (.bool true) ∧ Below w.heap.size w w' := by
  by_cases h : 1 ≤ p ∧ p ≤ 1000000 ∧ 1 ≤ b ∧ b ≤ 1000
  · exact plays_yes p b A len cap w h.1 h.2.1 h.2.2.1 h.2.2.2 hd hlen
  · exact plays_no p b A len cap w h

end Go.Proofs.Ythleomamdaijdaa.Quo

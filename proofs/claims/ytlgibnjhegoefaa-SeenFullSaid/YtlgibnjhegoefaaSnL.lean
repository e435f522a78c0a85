/- SeenFull: the walk of the law. -/
import Derived.Test.YtlgibnjhegoefaaSnA
import Derived.Test.YtlgibnjhegoefaaArgs
set_option linter.unusedVariables false
set_option linter.unusedSimpArgs false
namespace Go.Proofs.Ytlgibnjhegoefaa.Sn
open Go.RowKit Go.Maps Go.Proofs.Ytlgibnjhegoefaa.Base Go.Proofs.YtlgibnjhegoefaaW.PrintWords Go.Proofs.YtlgibnjhegoefaaW.PrintMore
attribute [local go_sem] max2_mx min2_mn max_two min_two max_three min_three max_four min_four

/-- The first so many keys. -/
def Lf (a b c : Int) (i : Nat) : List (K4 × Int) := (List.range i).map (fun n : Nat => ((⟨a, b, c, (n : Int)⟩ : K4), 5 + (n : Int).tmod 2))

theorem tm (n : Nat) : (n : Int).tmod 2 = ((n % 2 : Nat) : Int) := rfl

theorem Lf_succ (a b c : Int) (i : Nat) : Lf a b c (i + 1) = Lf a b c i ++ [(⟨a, b, c, (i : Int)⟩, 5 + (i : Int).tmod 2)] := by
  unfold Lf
  rw [List.range_succ, List.map_append]
  rfl

theorem Lf_len (a b c : Int) (i : Nat) : (Lf a b c i).length = i := by simp [Lf]

theorem full_step (a b c : Int) (i : Nat) (hi : i < 512) : markL (Lf a b c i) ⟨a, b, c, (i : Int)⟩ (5 + (i : Int).tmod 2) 0 = (true, Lf a b c (i + 1)) := by
  have h2 : i % 2 < 2 := Nat.mod_lt _ (by omega)
  have hc : cl (5 + (i : Int).tmod 2) = 5 + (i : Int).tmod 2 := by rw [tm]; exact cl_same _ (by omega) (by omega)
  have h0 : cl 0 = 0 := by decide
  have hf : (Lf a b c i).filter (fun p => decide (cl 0 < p.2)) = Lf a b c i := by
    refine List.filter_eq_self.2 fun p hp => ?_
    obtain ⟨n, _, rfl⟩ := List.mem_map.1 hp
    rw [h0, tm]
    simp
    omega
  unfold markL
  rw [hf, hc, h0, Lf_len, Lf_succ]
  refine if_neg ?_
  rintro (h | h | h)
  · obtain ⟨p, hp, he⟩ := List.any_eq_true.1 h
    obtain ⟨n, hn, rfl⟩ := List.mem_map.1 hp
    have := List.mem_range.1 hn
    simp at he
    omega
  · rw [tm] at h
    omega
  · omega

theorem full_no (a b c : Int) : markL (Lf a b c 512) ⟨a, b, c, -1⟩ 9 4 = (false, Lf a b c 512) := by
  have h4 : cl 4 = 4 := by decide
  have hf : (Lf a b c 512).filter (fun p => decide (cl 4 < p.2)) = Lf a b c 512 := by
    refine List.filter_eq_self.2 fun p hp => ?_
    obtain ⟨n, _, rfl⟩ := List.mem_map.1 hp
    rw [h4, tm]
    simp
    omega
  unfold markL
  rw [hf]
  exact if_pos (.inr (.inr (by rw [Lf_len]; omega)))

theorem full_yes (a b c : Int) : ∃ L, markL (Lf a b c 512) ⟨a, b, c, -1⟩ 9 5 = (true, L) ∧ L.length = 257 := by
  have h5 : cl 5 = 5 := by decide
  have h9 : cl 9 = 9 := by decide
  have hl : ((Lf a b c 512).filter (fun p => decide (cl 5 < p.2))).length = 256 := by
    unfold Lf
    rw [List.filter_map, List.length_map, h5]
    have : (List.range 512).filter ((fun p : K4 × Int => decide (5 < p.2)) ∘ fun n : Nat => ((⟨a, b, c, (n : Int)⟩ : K4), 5 + (n : Int).tmod 2)) = (List.range 512).filter (fun n => decide (n % 2 = 1)) := by
      refine List.filter_congr fun n _ => ?_
      have : n % 2 < 2 := Nat.mod_lt _ (by omega)
      simp only [Function.comp, tm]
      congr 1
      apply propext
      constructor <;> intro h <;> omega
    rw [this]
    decide +kernel
  refine ⟨(Lf a b c 512).filter (fun p => decide (cl 5 < p.2)) ++ [(⟨a, b, c, -1⟩, cl 9)], ?_, by rw [List.length_append, hl]; rfl⟩
  unfold markL
  refine if_neg ?_
  rintro (h | h | h)
  · obtain ⟨p, hp, he⟩ := List.any_eq_true.1 h
    obtain ⟨n, hn, rfl⟩ := List.mem_map.1 (List.mem_filter.1 hp).1
    simp at he
  · rw [h9, h5] at h
    omega
  · rw [hl] at h
    omega

set_option maxHeartbeats 8000000 in
set_option maxRecDepth 100000 in
theorem full_walk (a b c n : Int) (ha : (Lit.int .i64 a).wf = true) (hb : (Lit.int .i64 b).wf = true) (hc : (Lit.int .i64 c).wf = true) (hn : (Lit.int .i64 n).wf = true) (w : World) :
    Calls Try.prog 5 #[.agg #[.int .i64 a, .int .i64 b, .int .i64 c], .int .i64 n] w fun e w' => e = .returned (.bool true) ∧ Below w.heap.size w w' := by
  have HA := Lib.hid ha
  have HB := Lib.hid hb
  have HC := Lib.hid hc
  have HO1 : Hid (Only (fun _ => False) w (w.alloc (.cells #[.int .i64 a, .int .i64 b, .int .i64 c] 23))) := Lib.hid ((Only.refl _ w).alloc _)
  have HK1 := Lib.hid (heap_alloc_new w (.cells #[.int .i64 a, .int .i64 b, .int .i64 c] 23))
  have hq1 := blk_lt HK1.out
  clear ha hb hc hn
  go_enter Try.func5, Try.ntmps5
  go_wp2_with fail
  generalize w.alloc (.cells #[.int .i64 a, .int .i64 b, .int .i64 c] 23) = w1 at *
  refine (new_p _).mono ?_
  rintro e w2 ⟨rfl, h2, o2⟩
  generalize w1.heap.size = m at *
  have hqb : w.heap.size ≠ m := by omega
  have H2 : Hid (SS w2 (m + 1) m (Lf a b c 0)) := Lib.hid h2
  have O2 : Hid (Below w.heap.size w w2) := Lib.hid ((HO1.out.trans o2).below (Below.refl _ _) (Nat.le_refl _) (fun _ h => h.elim))
  have K2 := Lib.hid (o2.blk HK1.out (fun h => h))
  clear h2 o2
  obtain ⟨g, hg⟩ : ∃ g, g = m + 1 := ⟨_, rfl⟩
  rw [← hg] at H2
  rw [← hg]
  clear hg
  go_wp2
  go_loopw [6] (fun vi wr => ∃ i : Nat, vi = .int .i64 (i : Int) ∧ i ≤ 512 ∧ Hid (SS wr g m (Lf a b c i)) ∧ Hid (Below w.heap.size w wr) ∧ Hid (wr.heap[w.heap.size]? = some (.cells #[.int .i64 a, .int .i64 b, .int .i64 c] 23 (0, 0)))) (fun vi _ => 512 - (intOf vi).toNat)
  case atStart => exact ⟨0, rfl, by omega, H2, O2, K2⟩
  case round =>
    obtain ⟨i, rfl, hi, HS, HBl, HK⟩ := hrel
    have hk0 : wr.cell? ⟨w.heap.size, 0, none⟩ = some (.int .i64 a) := cell_at HK.out 0 rfl
    have hk1 : wr.cell? ⟨w.heap.size, 1, none⟩ = some (.int .i64 b) := cell_at HK.out 1 rfl
    have hk2 : wr.cell? ⟨w.heap.size, 2, none⟩ = some (.int .i64 c) := cell_at HK.out 2 rfl
    have hgo : i < 512 ∨ i = 512 := by omega
    rcases hgo with hlt | rfl
    · have hlt' : (i : Int) < 512 := by omega
      have h2 : i % 2 < 2 := Nat.mod_lt _ (by omega)
      have hw : wrap64 (5 + (i : Int).tmod 2) = 5 + (i : Int).tmod 2 := by rw [tm]; unfold wrap64; omega
      have hmk := mark_p wr HS.out ⟨a, b, c, (i : Int)⟩ ⟨HA.out, HB.out, HC.out, WalkArith.wf_i64 (n := (i : Int)) (by omega)⟩ (5 + (i : Int).tmod 2) 0 (by rw [Lf_len]; omega)
      rw [full_step a b c i hlt] at hmk
      have HMK := Lib.hid hmk
      clear hmk h2
      go_wp2_with (go_at_call 9; refine HMK.out.mono ?_; rintro e w3 ⟨rfl, h3, o3⟩; have H3 := Lib.hid h3; have B3 : Hid (Below w.heap.size w w3) := Lib.hid (o3.below HBl.out HBl.out.size (fun k e => by omega)); have K3 := Lib.hid (o3.blk HK.out hqb); clear h3 o3)
      go_roundw
      case rel => exact ⟨i + 1, by go_num, by omega, H3, B3, K3⟩
      case measure => simp [intOf]; omega
    · obtain ⟨L, hL, hL2⟩ := full_yes a b c
      have HM1 : Hid (∀ w', SS w' g m (Lf a b c 512) → Calls Try.prog 9 #[.pointer (some ⟨g, 0, none⟩), .agg #[.int .i64 a, .int .i64 b, .int .i64 c, .int .i64 (-1)], .int .i64 9, .int .i64 4] w' fun e w'' => e = .returned (.bool false) ∧ SS w'' g m (Lf a b c 512) ∧ Only (fun k => k = m) w' w'') := Lib.hid (fun w' h => by
        have := mark_p w' h ⟨a, b, c, -1⟩ ⟨HA.out, HB.out, HC.out, WalkArith.wf_i64 (n := -1) (by omega)⟩ 9 4 (by rw [Lf_len]; omega)
        rwa [full_no] at this)
      have HM2 : Hid (∀ w', SS w' g m (Lf a b c 512) → Calls Try.prog 9 #[.pointer (some ⟨g, 0, none⟩), .agg #[.int .i64 a, .int .i64 b, .int .i64 c, .int .i64 (-1)], .int .i64 9, .int .i64 5] w' fun e w'' => e = .returned (.bool true) ∧ SS w'' g m L ∧ Only (fun k => k = m) w' w'') := Lib.hid (fun w' h => by
        have := mark_p w' h ⟨a, b, c, -1⟩ ⟨HA.out, HB.out, HC.out, WalkArith.wf_i64 (n := -1) (by omega)⟩ 9 5 (by rw [Lf_len]; omega)
        rwa [hL] at this)
      have HLN : Hid (∀ w', SS w' g m L → Calls Try.prog 10 #[.pointer (some ⟨g, 0, none⟩)] w' fun e w'' => e = .returned (.int .i64 257) ∧ w' = w'') := Lib.hid (fun w' h => by
        have := len_p w' h
        rwa [hL2] at this)
      clear hL hL2
      go_wp2_with fail
      refine (HM1.out _ HS.out).mono ?_
      rintro e w3 ⟨rfl, h3, o3⟩
      have H3 := Lib.hid h3
      have B3 : Hid (Below w.heap.size w w3) := Lib.hid (o3.below HBl.out HBl.out.size (fun k e => by omega))
      have K3 := Lib.hid (o3.blk HK.out hqb)
      clear h3 o3 hk0 hk1 hk2
      have hk0 : w3.cell? ⟨w.heap.size, 0, none⟩ = some (.int .i64 a) := cell_at K3.out 0 rfl
      have hk1 : w3.cell? ⟨w.heap.size, 1, none⟩ = some (.int .i64 b) := cell_at K3.out 1 rfl
      have hk2 : w3.cell? ⟨w.heap.size, 2, none⟩ = some (.int .i64 c) := cell_at K3.out 2 rfl
      go_wp2_with fail
      refine (HM2.out _ H3.out).mono ?_
      rintro e w4 ⟨rfl, h4, o4⟩
      have H4 := Lib.hid h4
      have B4 : Hid (Below w.heap.size w w4) := Lib.hid (o4.below B3.out B3.out.size (fun k e => by omega))
      have K4 := Lib.hid (o4.blk K3.out hqb)
      clear h4 o4 hk0 hk1 hk2
      have hk0 : w4.cell? ⟨w.heap.size, 0, none⟩ = some (.int .i64 a) := cell_at K4.out 0 rfl
      have hk1 : w4.cell? ⟨w.heap.size, 1, none⟩ = some (.int .i64 b) := cell_at K4.out 1 rfl
      have hk2 : w4.cell? ⟨w.heap.size, 2, none⟩ = some (.int .i64 c) := cell_at K4.out 2 rfl
      go_wp2_with fail
      refine (HLN.out _ H4.out).mono ?_
      rintro e w5 ⟨rfl, rfl⟩
      have B5 : Hid (Below w.heap.size w (w4.alloc (.cells #[.int .i64 a, .int .i64 b, .int .i64 c, .int .i64 n] 25))) := Lib.hid (below_alloc B4.out _)
      have K5 := Lib.hid (heap_alloc_new w4 (.cells #[.int .i64 a, .int .i64 b, .int .i64 c, .int .i64 n] 25))
      go_wp2_with fail
      generalize w4.alloc (.cells #[.int .i64 a, .int .i64 b, .int .i64 c, .int .i64 n] 25) = w5 at *
      generalize w4.heap.size = q at *
      refine (mark_nil ⟨a, b, c, n⟩ 9 0 w5).mono ?_
      rintro e w6 ⟨rfl, o6⟩
      have B6 : Hid (Below w.heap.size w w6) := Lib.hid (o6.below B5.out B5.out.size (fun k e => e.elim))
      have K6 := Lib.hid (o6.blk K5.out (fun h => h))
      clear o6 hk0 hk1 hk2
      have hk0 : w6.cell? ⟨q, 0, none⟩ = some (.int .i64 a) := cell_at K6.out 0 rfl
      have hk1 : w6.cell? ⟨q, 1, none⟩ = some (.int .i64 b) := cell_at K6.out 1 rfl
      have hk2 : w6.cell? ⟨q, 2, none⟩ = some (.int .i64 c) := cell_at K6.out 2 rfl
      have hk3 : w6.cell? ⟨q, 3, none⟩ = some (.int .i64 n) := cell_at K6.out 3 rfl
      go_wp2_with fail
      refine (has_nil ⟨a, b, c, n⟩ w6).mono ?_
      rintro e w7 ⟨rfl, o7⟩
      have B7 : Hid (Below w.heap.size w w7) := Lib.hid (o7.below B6.out B6.out.size (fun k e => e.elim))
      clear o7
      go_wp2_with (first | (go_at_call 10; refine (len_nil _).mono ?_; rintro e w' ⟨rfl, rfl⟩) | (go_at_call 11; refine (awake_p _).mono ?_; rintro e w8 ⟨rfl, o8⟩; have B8 : Hid (Below w.heap.size w w8) := Lib.hid (o8.below B7.out B7.out.size (fun k e => e.elim)); clear o8))
      go_ret
      exact ⟨rfl, B8.out⟩

end Go.Proofs.Ytlgibnjhegoefaa.Sn

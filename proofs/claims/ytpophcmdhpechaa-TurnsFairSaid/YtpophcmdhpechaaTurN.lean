/- The contracts of New, and of the law's awake. -/
import Derived.Test.YtpophcmdhpechaaTurS
import Derived.Test.YtpophcmdhpechaaTurR
import Derived.Handy
set_option linter.unusedVariables false
set_option linter.unusedSimpArgs false
namespace Go.Proofs.Ytpophcmdhpechaa.Tur
open Go.RowKit Go.Proofs.Ytpophcmdhpechaa.Base Go.Proofs.YtpophcmdhpechaaW.PrintWords Go.Proofs.YtpophcmdhpechaaW.PrintMore
attribute [local go_sem] max2_mx min2_mn max_two min_two max_three min_three max_four min_four

/-- New, of weights that may not be. -/
theorem new_no (ws : List Int) (A : Option Addr) (c : Nat) (w : World) (hr : Kd.C (Kd.int .i64) w A ws.length ws) (hl : ws.length ≤ 70) (hno : ¬ Ok ws) :
    Calls Try.prog 18 #[.slice A ws.length c] w fun e w' => e = .returned (.tuple #[.pointer none, .int .i64 2]) ∧ w = w' := by
  have HR := Lib.hid hr
  have HM := Lib.hid hno
  clear hr hno
  by_cases h64 : 64 < ws.length
  · have h64' : (64 : Int) < ws.length := by omega
    go_enter Try.func18, Try.ntmps18
    go_wp2
    go_ret2
    exact ⟨rfl, rfl⟩
  have h64' : ¬ (64 : Int) < ws.length := by omega
  go_enter Try.func18, Try.ntmps18
  go_wp2
  go_loopw [4, 6, 12] (fun vs v6 vi wr => ∃ k : Nat, vs = .int .i64 (sumK (fun i => rd ws i) k) ∧ vi = .int .i64 (k : Int) ∧ k ≤ ws.length ∧ Hid (∀ j : Nat, j < k → 0 ≤ rd ws (j : Int) ∧ rd ws (j : Int) ≤ 1000) ∧ w = wr) (fun _ _ vi _ => ws.length - (intOf vi).toNat)
  case atStart => exact ⟨0, rfl, rfl, by omega, Lib.hid (fun j hj => by omega), rfl⟩
  case round =>
    obtain ⟨k, rfl, rfl, hi, HJ, rfl⟩ := hrel
    have hgo : k < ws.length ∨ k = ws.length := by omega
    rcases hgo with hlt | rfl
    · have hlt' : (k : Int) < ws.length := by omega
      obtain ⟨ad, rfl, hx⟩ := Kd.at_int HR.out (k : Int) (by omega) hlt'
      rw [Int.toNat_natCast] at hx
      have hgo : rd ws (k : Int) < 0 ∨ ¬ rd ws (k : Int) < 0 ∧ 1000 < rd ws (k : Int) ∨ ¬ rd ws (k : Int) < 0 ∧ ¬ 1000 < rd ws (k : Int) := by omega
      rcases hgo with hb3 | ⟨hb3, hb4⟩ | ⟨hb3, hb4⟩
      · go_wp2
        go_ret2
        exact ⟨rfl, rfl⟩
      · go_wp2
        go_ret2
        exact ⟨rfl, rfl⟩
      · have HJ2 : Hid (∀ j : Nat, j < k + 1 → 0 ≤ rd ws (j : Int) ∧ rd ws (j : Int) ≤ 1000) := Lib.hid (fun j hj => by
          by_cases c : j = k
          · subst c; omega
          · exact HJ.out j (by omega))
        have hs1 := sumK_nonneg (f := fun i => rd ws i) (k := k + 1) (fun i hi => (HJ2.out i hi).1)
        have hs2 := sumK_le 1000 (f := fun i => rd ws i) (k := k + 1) (fun i hi => (HJ2.out i hi).2)
        have HS : Hid (sumK (fun i => rd ws i) (k + 1) = sumK (fun i => rd ws i) k + rd ws (k : Int)) := Lib.hid rfl
        have hw : wrap64 (sumK (fun i => rd ws i) k + rd ws (k : Int)) = sumK (fun i => rd ws i) (k + 1) := by rw [HS.out] at hs1 hs2 ⊢; unfold wrap64; omega
        clear hs1 hs2
        go_wp2
        go_roundw
        case rel => exact ⟨k + 1, by rw [hw], by go_num, by omega, HJ2, by trivial⟩
        case measure => simp [intOf]; omega
    · have hcz : cyc ws = 0 := by
        have h1 := sumK_nonneg (f := fun i => rd ws i) (k := ws.length) (fun i hi => (HJ.out i hi).1)
        have h2 : ¬ 0 < cyc ws := fun h => HM.out ⟨by omega, HJ.out, h⟩
        unfold cyc at h2 ⊢; omega
      have hcz' : sumK (fun i => rd ws i) ws.length = 0 := hcz
      rw [hcz']
      go_wp2
      go_ret2
      exact ⟨rfl, rfl⟩

theorem made (n : Nat) (h2 : n ≤ 64) (w : World) :
    (Instr.makeSlice 34 (.int .i64 (n : Int)) (.int .i64 (n : Int))).run Try.prog w = .ok (.slice (some ⟨w.heap.size, 0, none⟩) n n) (w.alloc (.cells (madeCells #[.int .i64 0] n) 3)) := by
  obtain ⟨i0, hi, hzz⟩ := Option.map_eq_some_iff.1 info3
  simp only [Prod.mk.injEq] at hzz
  obtain ⟨hz0, hz1, hz2⟩ := hzz
  have h := run_make (P := Try.prog) (w := w) 34 3 i0 (.int .i64 0) Try.underlying34 hi hz0 .i64 .i64 (n : Int) (n : Int) (by omega) (by omega) (by rw [hz2]; omega) (by omega)
  rw [hz1, Nat.mul_one] at h
  exact h

/-- What New leaves. -/
def Newed (ws : List Int) (w : World) (e : Ending) (w' : World) : Prop :=
  ∃ p a b ca, e = .returned (.tuple #[.pointer (some ⟨p, 0, none⟩), .int .i64 0]) ∧ TK ws (List.replicate ws.length 0) p a b ca w' ∧ Below w.heap.size w w' ∧ w.heap.size ≤ p ∧ w.heap.size ≤ a ∧ w.heap.size ≤ b

theorem made_cel (n : Nat) : madeCells #[.int .i64 0] n = cel (List.replicate n 0) := by
  apply Array.toList_inj.1
  rw [toList_madeCells_one]
  unfold cel
  simp

theorem tk_of {ws : List Int} {a b ca base : Nat} {ok : Nat → Prop} {W : World} (hR : Kd.R (Kd.int .i64) 3 W base ok (.slice (some ⟨a, 0, none⟩) ws.length ca) ws) (hb : W.heap[b]? = some (.cells (madeCells #[.int .i64 0] ws.length) 3 (0, 0))) (hab : a ≠ b) :
    TK ws (List.replicate ws.length 0) W.heap.size a b ca (W.alloc (.cells #[.slice (some ⟨a, 0, none⟩) ws.length ca, .slice (some ⟨b, 0, none⟩) ws.length ws.length, .int .i64 (cyc ws)] 59)) := by
  rw [made_cel] at hb
  have hO : Only (fun _ => False) W (W.alloc (.cells #[.slice (some ⟨a, 0, none⟩) ws.length ca, .slice (some ⟨b, 0, none⟩) ws.length ws.length, .int .i64 (cyc ws)] 59)) := (Only.refl _ W).alloc _
  have hlt := blk_lt hb
  refine ⟨heap_alloc_new W _, fun i hi => hO.cell ?_ id, hO.blk hb id, by omega, hab, by simp⟩
  obtain ⟨_, _, hc⟩ := Kd.R_reads' hR
  obtain ⟨ad', e, hx⟩ := Kd.at_int hc (i : Int) (by omega) (by omega)
  cases e
  rw [Int.toNat_natCast] at hx
  have : (⟨a, 0, none⟩ : Addr).add i = ⟨a, i, none⟩ := by simp [Addr.add]; omega
  rw [this] at hx
  exact hx

set_option maxHeartbeats 4000000 in
theorem new_ok (ws : List Int) (ad : Addr) (c : Nat) (w : World) (hr : Kd.C (Kd.int .i64) w (some ad) ws.length ws) (hok : Ok ws) :
    Calls Try.prog 18 #[.slice (some ad) ws.length c] w (Newed ws w) := by
  have HR := Lib.hid hr
  have HM := Lib.hid hok
  have h64 := hok.n
  have h64' : ¬ (64 : Int) < ws.length := by omega
  have hpos := hok.pos
  have hcz : (cyc ws == 0) = false := by have := hok.c; simp; omega
  have hcb := hok.cyc_le
  have hcp := hok.c
  have hmk := made ws.length h64
  clear hr hok
  go_enter Try.func18, Try.ntmps18
  go_wp2
  go_loopw [4, 6, 12] (fun vs v6 vi wr => ∃ k : Nat, vs = .int .i64 (sumK (fun i => rd ws i) k) ∧ vi = .int .i64 (k : Int) ∧ k ≤ ws.length ∧ w = wr) (fun _ _ vi _ => ws.length - (intOf vi).toNat)
  case atStart => exact ⟨0, rfl, rfl, by omega, rfl⟩
  case round =>
    obtain ⟨k, rfl, rfl, hi, rfl⟩ := hrel
    have hgo : k < ws.length ∨ k = ws.length := by omega
    rcases hgo with hlt | rfl
    · have hlt' : (k : Int) < ws.length := by omega
      obtain ⟨ad', e, hx⟩ := Kd.at_int HR.out (k : Int) (by omega) hlt'
      cases e
      rw [Int.toNat_natCast] at hx
      obtain ⟨hb1, hb2⟩ := HM.out.b k hlt
      have hb3 : ¬ rd ws (k : Int) < 0 := by omega
      have hb4 : ¬ 1000 < rd ws (k : Int) := by omega
      have hs := HM.out.mid.sum (k + 1) (by omega)
      have HS : Hid (sumK (fun i => rd ws i) (k + 1) = sumK (fun i => rd ws i) k + rd ws (k : Int)) := Lib.hid rfl
      have hw : wrap64 (sumK (fun i => rd ws i) k + rd ws (k : Int)) = sumK (fun i => rd ws i) (k + 1) := by rw [HS.out] at hs ⊢; unfold wrap64; omega
      clear hs
      go_wp2
      go_roundw
      case rel => exact ⟨k + 1, by rw [hw], by go_num, by omega, by trivial⟩
      case measure => simp [intOf]; omega
    · have HE : Hid (sumK (fun i => rd ws i) ws.length = cyc ws) := Lib.hid rfl
      rw [HE.out]
      go_wp2
      go_region_with (first | (go_at_call 33; refine (clone_p ad ws c _ (by first | exact HR.out | exact Kd.C_alloc HR.out _ | exact Kd.C_alloc (Kd.C_drewN HR.out _) _) h64 hpos).mono ?_; rintro e w1 ⟨v1, rfl, hr1, hb1⟩; obtain ⟨A1, c1, e1⟩ := Kd.R_slice hr1; subst e1; have HR1 := Lib.hid hr1; have HB1 := Lib.hid hb1; clear hr1 hb1))
      · obtain ⟨g, hg, hg1, _, hg2⟩ := R_some HR1.out hpos
        subst hg
        have hB := HB1.out
        go_wp2
        go_ret2
        have hz : w.drew.heap.size = w.heap.size := rfl
        have hs := hB.size
        have hR : Kd.R (Kd.int .i64) 3 (w1.alloc (.cells (madeCells #[.int .i64 0] ws.length) 3)) w.drew.heap.size (fun _ => True) (.slice (some ⟨g, 0, none⟩) ws.length c1) ws := Kd.R_alloc HR1.out _
        have hT := tk_of hR (b := w1.heap.size) (heap_alloc_new w1 _) (by omega)
        refine ⟨w1.heap.size + 1, g, w1.heap.size, c1, rfl, ?_, ?_, ?_, ?_, ?_⟩
        · simpa using hT
        · exact below_alloc (below_alloc (show Below w.heap.size w w1 from ⟨hB.os, hB.tape, hB.output, hB.size, hB.block⟩) _) _
        · omega
        · omega
        · omega
      · obtain ⟨g, hg, hg1, _, hg2⟩ := R_some HR1.out hpos
        subst hg
        have hB := HB1.out
        go_wp2
        go_ret2
        have hz : ∀ o, (w.alloc o).drew.heap.size = w.heap.size + 1 := fun o => by show (w.heap.push o).size = _; simp
        have hs := hB.size
        rw [hz] at hs hg1
        have hbk : w1.heap[w.heap.size]? = some (.cells (madeCells #[.int .i64 0] ws.length) 3 (0, 0)) := (hB.block w.heap.size (by rw [hz]; omega)).trans (heap_alloc_new w _)
        have hT := tk_of HR1.out (b := w.heap.size) hbk (by omega)
        refine ⟨w1.heap.size, g, w.heap.size, c1, rfl, ?_, ?_, ?_, ?_, ?_⟩
        · exact hT
        · refine below_alloc ?_ _
          have h0 : Below w.heap.size w (w.alloc (.cells (madeCells #[.int .i64 0] ws.length) 3)).drew := below_drew (below_alloc (Below.refl _ _) _)
          exact ⟨hB.os.trans h0.os, hB.tape.trans h0.tape, hB.output.trans h0.output, by omega, fun i hi => (hB.block i (by rw [hz]; omega)).trans (h0.block i hi)⟩
        · omega
        · omega
        · omega

end Go.Proofs.Ytpophcmdhpechaa.Tur

/- The law's awake. -/
import Derived.Test.YtpophcmdhpechaaTurN
set_option linter.unusedVariables false
set_option linter.unusedSimpArgs false
namespace Go.Proofs.Ytpophcmdhpechaa.Tur
open Go.RowKit Go.Proofs.Ytpophcmdhpechaa.Base Go.Proofs.YtpophcmdhpechaaW.PrintWords Go.Proofs.YtpophcmdhpechaaW.PrintMore
attribute [local go_sem] max2_mx min2_mn max_two min_two max_three min_three max_four min_four

theorem lit_row (W : World) (xs : List Int) (h : xs.length ≤ 64) : Kd.R (Kd.int .i64) 3 (W.alloc (.cells (cel xs) 3)) W.heap.size (fun _ => True) (.slice (some ⟨W.heap.size, 0, none⟩) xs.length xs.length) xs := by
  have h := World.ownsRow_lit (base := W.heap.size) (e := 3) (size := 1) W (cel xs) xs.length (Nat.le_refl _) (by simp [maxLen]; omega) (by simp [cel])
  exact Kd.R_of_own (enc := Value.int .i64) (h1 := fun _ => rfl) (by simpa [cel, encs] using h) (fun _ _ => trivial)

theorem lit_C (W : World) (xs : List Int) (h : xs.length ≤ 64) : Kd.C (Kd.int .i64) (W.alloc (.cells (cel xs) 3)) (some ⟨W.heap.size, 0, none⟩) xs.length xs := (Kd.R_reads' (lit_row W xs h)).2.2

theorem below_lit {w w1 : World} {o : Obj} (h : Below (w.alloc o).heap.size (w.alloc o) w1) : Below w.heap.size w w1 := by
  have hz : (w.alloc o).heap.size = w.heap.size + 1 := by show (w.heap.push o).size = _; simp
  have h0 : Below w.heap.size w (w.alloc o) := below_alloc (Below.refl _ _) _
  have hs := h.size
  exact ⟨h.os.trans h0.os, h.tape.trans h0.tape, h.output.trans h0.output, by omega, fun i hi => (h.block i (by omega)).trans (h0.block i hi)⟩

/-- What places of 5, 1 and 1 have behind so many turns. -/
def hvK : Nat → List Int
  | 0 => [0, 0, 0]
  | k + 1 => aft [5, 1, 1] (hvK k)

def turnK : List Int := [0, 0, 1, 0, 2, 0, 0]

theorem ok511 : Ok [5, 1, 1] := ⟨by decide, by decide, by decide⟩
theorem turn_all : ∀ k, k < 7 → (nxt [5, 1, 1] (hvK k) : Nat) = rd turnK (k : Int) := by decide
theorem near_all : ∀ k, k < 8 → ∀ i : Nat, i < 3 → -100000000 ≤ rd (hvK k) (i : Int) ∧ rd (hvK k) (i : Int) ≤ 100000000 := by decide
theorem last_0 : rd (hvK 7) (0 : Nat) = 0 := by decide

set_option maxHeartbeats 2000000 in
theorem awake_p (w : World) : Calls Try.prog 17 #[] w fun e w' => e = .returned (.bool true) ∧ Below w.heap.size w w' := by
  go_enter Try.func17, Try.ntmps17
  go_wp2_with (go_at_call 18; refine (new_ok [5, 1, 1] ⟨w.heap.size, 0, none⟩ 3 _ (lit_C w [5, 1, 1] (by decide)) ok511).mono ?_; rintro e w1 ⟨p, a, b, ca, rfl, hT, hB, hp, ha, hb⟩; have HT := Lib.hid hT; have HB := Lib.hid hB; clear hT hB)
  obtain ⟨L, hL⟩ : ∃ L, L = w1.heap.size := ⟨_, rfl⟩
  rw [← hL]
  have HW2 : Hid ((w1.alloc (.cells (cel turnK) 3)).heap[L]? = some (.cells (cel turnK) 3 (0, 0))) := Lib.hid (by rw [hL]; exact heap_alloc_new w1 _)
  have HT2 : Hid (TK [5, 1, 1] (hvK 0) p a b ca (w1.alloc (.cells (cel turnK) 3))) := Lib.hid (HT.out.keep (S := fun _ => False) ((Only.refl _ _).alloc _) id id id)
  have HB2 : Hid (Below w.heap.size w (w1.alloc (.cells (cel turnK) 3))) := Lib.hid (below_alloc (below_lit HB.out) _)
  have hLb : L ≠ b := by have := blk_lt HT.out.own; omega
  have HN := Lib.hid turn_all
  have HNE := Lib.hid near_all
  have hb' : w.heap.size ≤ b := by
    have hz : ∀ o, (w.alloc o).heap.size = w.heap.size + 1 := fun o => by show (w.heap.push o).size = _; simp
    rw [hz] at hb; omega
  clear hL HT HB
  go_loopw [4] (fun vi wr => ∃ k : Nat, vi = .int .i64 (k : Int) ∧ k ≤ 7 ∧ Hid (TK [5, 1, 1] (hvK k) p a b ca wr) ∧ Hid (wr.heap[L]? = some (.cells (cel turnK) 3 (0, 0))) ∧ Hid (Below w.heap.size w wr)) (fun vi _ => 7 - (intOf vi).toNat)
  case atStart => exact ⟨0, rfl, by omega, HT2, HW2, HB2⟩
  case round =>
    obtain ⟨k, rfl, hk, HTr, HLr, HBr⟩ := hrel
    have hgo : k < 7 ∨ k = 7 := by omega
    rcases hgo with hlt | rfl
    · have hlt' : (k : Int) < 7 := by omega
      have hc0 : wr.cell? ⟨L, k, none⟩ = some (.int .i64 (rd turnK (k : Int))) := cell_at HLr.out k (cel_at turnK k hlt)
      have HE := Lib.hid (HN.out k hlt)
      have HC : Hid (∀ w0, TK [5, 1, 1] (hvK k) p a b ca w0 → Calls Try.prog 20 #[.pointer (some ⟨p, 0, none⟩)] w0 fun e w' => e = .returned (.int .i64 (rd turnK (k : Int))) ∧ TK [5, 1, 1] (hvK (k + 1)) p a b ca w' ∧ Only (fun k => k = b) w0 w') :=
        Lib.hid (fun w0 h0 => by
          have h1 := next_p [5, 1, 1] (hvK k) p a b ca w0 h0 ok511 (HNE.out k (by omega))
          rw [HE.out] at h1
          exact h1)
      go_wp2
      go_region_held3 (fun w' => w'.cell? ⟨L, k, none⟩ = some (.int .i64 (rd turnK (k : Int)))) (first | exact hc0 | exact hc1) (first | (go_at_call 20; refine (HC.out _ (by exact HTr.out.keep (S := fun _ => False) ⟨rfl, rfl, rfl, Nat.le_refl _, fun _ _ _ => rfl⟩ id id id)).mono ?_; rintro e w2 ⟨rfl, ht2, ho2⟩; have HT3 := Lib.hid ht2; have HO3 := Lib.hid ho2; have hc1 : w2.cell? ⟨L, k, none⟩ = some (.int .i64 (rd turnK (k : Int))) := ho2.cell hc0 hLb; clear ht2 ho2))
      go_wp2
      go_roundw
      case rel => exact ⟨k + 1, by go_num, by omega, HT3, Lib.hid (HO3.out.blk HLr.out hLb), Lib.hid (HO3.out.below (below_drew HBr.out) HBr.out.size (fun _ h => by omega))⟩
      case measure => simp [intOf]; omega
    · have HC : Hid (∀ w0, TK [5, 1, 1] (hvK 7) p a b ca w0 → Calls Try.prog 22 #[.pointer (some ⟨p, 0, none⟩), .int .i64 0] w0 fun e w' => e = .returned (.int .i64 0) ∧ w0 = w') := Lib.hid (fun w0 h0 => by
        have := have_p [5, 1, 1] (hvK 7) p a b ca w0 h0 0 (by decide)
        rw [last_0] at this
        exact this)
      go_wp2_with (first | (go_at_call 21; refine (cycle_p [5, 1, 1] (hvK 7) p a b ca _ HTr.out).mono ?_; rintro e w' ⟨rfl, rfl⟩) | (go_at_call 22; refine (HC.out _ HTr.out).mono ?_; rintro e w' ⟨rfl, rfl⟩))
      go_ret
      exact ⟨rfl, HBr.out⟩

end Go.Proofs.Ytpophcmdhpechaa.Tur

/- The contracts of crc.Seal, crc.Open, and of the law's awake. -/
import Derived.Test.YtldmhoobpobinaaCrcP
set_option linter.unusedVariables false
set_option linter.unusedSimpArgs false
namespace Go.Proofs.Ytldmhoobpobinaa.Crc
open Go.RowKit Go.Proofs.Ytldmhoobpobinaa.Base Go.Proofs.YtldmhoobpobinaaW.PrintWords Go.Proofs.YtldmhoobpobinaaW.PrintMore

/-- The sum of a string. -/
def sumZ (s : ByteArray) : Int := moreZ 65535 s s.size

theorem sum_V (s : ByteArray) : sumZ s = V (mr 0xFFFF#16 s.data.toList) := more_V 0xFFFF#16 s
theorem sum_lo (s : ByteArray) : 0 ≤ sumZ s := by rw [sum_V]; exact V_lo _
theorem sum_hi (s : ByteArray) : sumZ s ≤ 65535 := by rw [sum_V]; exact V_hi _

theorem lit_C8 (W : World) (xs : List Int) (h : xs.length ≤ 64) : Kd.C (Kd.int .u8) (W.alloc (.cells (xs.map (Value.int .u8)).toArray 5)) (some ⟨W.heap.size, 0, none⟩) xs.length xs := by
  have h := World.ownsRow_lit (base := W.heap.size) (e := 5) (size := 1) W (xs.map (Value.int .u8)).toArray xs.length (Nat.le_refl _) (by simp [maxLen]; omega) (by simp)
  have h2 : Kd.R (Kd.int .u8) 5 (W.alloc (.cells (xs.map (Value.int .u8)).toArray 5)) W.heap.size (fun _ => True) (.slice (some ⟨W.heap.size, 0, none⟩) xs.length xs.length) xs := Kd.R_of_own (enc := Value.int .u8) (h1 := fun _ => rfl) (by simpa [encs] using h) (fun _ _ => trivial)
  exact (Kd.R_reads' h2).2.2

/-- A string with its sum behind. -/
def endZ (s : ByteArray) : ByteArray := strOfNums [sumZ s / 256, sumZ s % 256]
def sealZ (s : ByteArray) : ByteArray := s ++ endZ s

set_option maxHeartbeats 1000000 in
theorem seal_p (s : ByteArray) (w : World) (hs : s.size ≤ 90000) : Calls Try.prog 15 #[.string s] w fun e w' => e = .returned (.string (sealZ s)) ∧ Below w.heap.size w w' := by
  have h0 := sum_lo s
  have h1 := sum_hi s
  have HZ : Hid (sealZ s = s ++ strOfNums [moreZ 65535 s s.size / 256, moreZ 65535 s s.size % 256]) := Lib.hid rfl
  change (0 : Int) ≤ moreZ 65535 s s.size at h0
  change moreZ 65535 s s.size ≤ 65535 at h1
  have HT : Hid (∀ W, Calls Try.prog 12 #[.string s] W fun e w' => e = .returned (.int .u16 (moreZ 65535 s s.size)) ∧ Below W.heap.size W w') := Lib.hid (fun W => sum_p s W (by omega))
  generalize moreZ 65535 s s.size = t at *
  have hcv : ∀ W : World, (convert 38 9 (.slice (some ⟨W.heap.size, 0, none⟩) 2 2)).run Try.prog (W.alloc (.cells #[.int .u8 (t / 256), .int .u8 (t % 256)] 5)) = .ok (.string (strOfNums [t / 256, t % 256])) (W.alloc (.cells #[.int .u8 (t / 256), .int .u8 (t % 256)] 5)) := fun W => Kd.C_string (P := Try.prog) (src := 38) (dst := 9) (e := 5) (c := 2) Try.underlying38 Try.underlying5 Try.underlying9 (lit_C8 W [t / 256, t % 256] (by simp))
  have hz : (strOfNums [t / 256, t % 256]).size = 2 := by rw [strOfNums_size]; rfl
  have hq : s.size + (strOfNums [t / 256, t % 256]).size ≤ 9223372036854775807 := by rw [hz]; omega
  have hq2 : ¬ 9223372036854775807 < s.size + (strOfNums [t / 256, t % 256]).size := by omega
  go_enter Try.func15, Try.ntmps15
  go_wp2_with (go_at_call 12; refine (HT.out _).mono ?_; rintro e w1 ⟨rfl, hb1⟩; have HB1 := Lib.hid hb1; clear hb1)
  go_ret
  exact ⟨by rw [HZ.out]; rfl, below_alloc HB1.out _⟩

theorem open_no (s : ByteArray) (w : World) (hs : s.size ≤ 90000) (h : s.size < 2 ∨ ¬ s.size < 2 ∧ sumZ s ≠ 0) : Calls Try.prog 10 #[.string s] w fun e w' => e = .returned (.tuple #[.string ⟨#[]⟩, .bool false]) ∧ Below w.heap.size w w' := by
  rcases h with h | ⟨h, h2⟩
  · have h' : (s.size : Int) < 2 := by omega
    go_enter Try.func10, Try.ntmps10
    go_wp2
    go_ret2
    exact ⟨rfl, Below.refl _ _⟩
  · have h' : ¬ (s.size : Int) < 2 := by omega
    have HT : Hid (∀ W, Calls Try.prog 12 #[.string s] W fun e w' => e = .returned (.int .u16 (sumZ s)) ∧ Below W.heap.size W w') := Lib.hid (fun W => sum_p s W (by omega))
    generalize sumZ s = t at *
    have hb : (t == 0) = false := by simpa using h2
    go_enter Try.func10, Try.ntmps10
    go_wp2_with (go_at_call 12; refine (HT.out _).mono ?_; rintro e w1 ⟨rfl, hb1⟩; have HB1 := Lib.hid hb1; clear hb1)
    go_ret2
    exact ⟨rfl, HB1.out⟩

theorem open_ok (s : ByteArray) (w : World) (hs : s.size ≤ 90000) (h : 2 ≤ s.size) (h2 : sumZ s = 0) : Calls Try.prog 10 #[.string s] w fun e w' => e = .returned (.tuple #[.string (s.extract 0 (s.size - 2)), .bool true]) ∧ Below w.heap.size w w' := by
  have h' : ¬ (s.size : Int) < 2 := by omega
  have HT : Hid (∀ W, Calls Try.prog 12 #[.string s] W fun e w' => e = .returned (.int .u16 0) ∧ Below W.heap.size W w') := Lib.hid (fun W => by have := sum_p s W (by omega); rw [show moreZ 65535 s s.size = 0 from h2] at this; exact this)
  have h3 : 0 ≤ (s.size : Int) - 2 := by omega
  have h4 : (s.size : Int) - 2 ≤ s.size := by omega
  have HE : Hid (((s.size : Int) - 2).toNat = s.size - 2) := Lib.hid (by omega)
  go_enter Try.func10, Try.ntmps10
  go_wp2_with (go_at_call 12; refine (HT.out _).mono ?_; rintro e w1 ⟨rfl, hb1⟩; have HB1 := Lib.hid hb1; clear hb1)
  go_ret2
  exact ⟨by rw [← HE.out]; rfl, HB1.out⟩

/-- The example's sum. -/
theorem sum_19 : moreZ 65535 ⟨#[49, 50, 51, 52, 53, 54, 55, 56, 57]⟩ 9 = 10673 := by decide +kernel
theorem seal_0 : sealZ ⟨#[]⟩ = ⟨#[255, 255]⟩ := by decide +kernel

theorem awake_p (w : World) : Calls Try.prog 7 #[] w fun e w' => e = .returned (.bool true) ∧ Below w.heap.size w w' := by
  have HT : Hid (∀ W, Calls Try.prog 12 #[.string ⟨#[49, 50, 51, 52, 53, 54, 55, 56, 57]⟩] W fun e w' => e = .returned (.int .u16 10673) ∧ Below W.heap.size W w') := Lib.hid (fun W => by have := sum_p ⟨#[49, 50, 51, 52, 53, 54, 55, 56, 57]⟩ W (by decide); rw [show moreZ 65535 ⟨#[49, 50, 51, 52, 53, 54, 55, 56, 57]⟩ (ByteArray.size ⟨#[49, 50, 51, 52, 53, 54, 55, 56, 57]⟩) = 10673 from sum_19] at this; exact this)
  have HS : Hid (∀ W, Calls Try.prog 15 #[.string ⟨#[]⟩] W fun e w' => e = .returned (.string ⟨#[255, 255]⟩) ∧ Below W.heap.size W w') := Lib.hid (fun W => by have := seal_p ⟨#[]⟩ W (by decide); rw [seal_0] at this; exact this)
  go_enter Try.func7, Try.ntmps7
  go_wp2_with (first | (go_at_call 12; refine (HT.out _).mono ?_; rintro e w1 ⟨rfl, hb1⟩; have HB1 := Lib.hid hb1; clear hb1) | (go_at_call 15; refine (HS.out _).mono ?_; rintro e w2 ⟨rfl, hb2⟩; have HB2 := Lib.hid hb2; clear hb2))
  go_ret
  exact ⟨rfl, HB1.out.trans (HB2.out.mono HB1.out.size)⟩

end Go.Proofs.Ytldmhoobpobinaa.Crc

/- CrcTells returns true: the walk. -/
import Derived.Test.YtldmhoobpobinaaCrcT
set_option linter.unusedVariables false
set_option linter.unusedSimpArgs false
namespace Go.Proofs.Ytldmhoobpobinaa.Crc
open Go.Proofs.Ytldmhoobpobinaa.PCrcTells (hourglassref03_More.l0 hourglassref03_More.l1 hourglassref03_More.f hourglassref03_Sum.f hourglassref03_Seal.f hourglassref03_Open.f hourglassref03_More.calls hourglassref03_Sum.calls hourglassref03_Seal.calls hourglassref03_Open.calls)
open Go.RowKit Go.Proofs.Ytldmhoobpobinaa.Base Go.Proofs.YtldmhoobpobinaaW.PrintWords Go.Proofs.YtldmhoobpobinaaW.PrintMore

theorem tells_awake (s : ByteArray) (c : Int) (w : World) (h : 2000 < (s.size : Int)) :
    Calls Try.prog 4 #[.string s, .int .u16 c] w fun e w' => e = .returned (.bool true) ∧ Below w.heap.size w w' := by
  go_enter Try.func4, Try.ntmps4
  go_wp2_with (go_at_call 7; refine (awake_p _).mono ?_; rintro e w5 ⟨rfl, ho5⟩; have HO5 := Lib.hid ho5; clear ho5)
  go_ret
  exact ⟨rfl, HO5.out⟩

/-- What is called one behind the other keeps what was there. -/
theorem Calls.low {P : Program} {f : FuncId} {args : Array Value} {w0 W : World} {v : Value} (hb : Below w0.heap.size w0 W) (h : Calls P f args W fun e w' => e = .returned v ∧ Below W.heap.size W w') : Calls P f args W fun e w' => e = .returned v ∧ Below w0.heap.size w0 w' :=
  h.mono fun _ _ ⟨h1, h2⟩ => ⟨h1, hb.trans (h2.mono hb.size)⟩

set_option maxHeartbeats 2000000 in
theorem tells_main (s : ByteArray) (c : Int) (w : World) (h : s.size ≤ 2000) (hc : 0 ≤ c ∧ c ≤ 65535) :
    Calls Try.prog 4 #[.string s, .int .u16 c] w fun e w' => e = .returned (.bool true) ∧ Below w.heap.size w w' := by
  have h3 : ¬ 2000 < (s.size : Int) := by omega
  have HOp : Hid (∀ W, Calls Try.prog 10 #[.string s] W fun e w' => e = .returned (.tuple #[.string (openZ s).1, .bool (openZ s).2]) ∧ Below W.heap.size W w') := Lib.hid (fun W => open_p s W h)
  have HOr : Hid (∀ W, Calls Try.prog 11 #[.string s] W fun e w' => e = .returned (.tuple #[.string (openZ s).1, .bool (openZ s).2]) ∧ Below W.heap.size W w') := Lib.hid (fun W => by
    obtain ⟨k, hk⟩ := ref_open s h
    exact hourglassref03_Open.calls k s _ _ W hk)
  have HSp : Hid (∀ W, Calls Try.prog 12 #[.string s] W fun e w' => e = .returned (.int .u16 (sumZ s)) ∧ Below W.heap.size W w') := Lib.hid (fun W => sum_p s W (by omega))
  have HSr : Hid (∀ W, Calls Try.prog 13 #[.string s] W fun e w' => e = .returned (.int .u16 (sumZ s)) ∧ Below W.heap.size W w') := Lib.hid (fun W => (hourglassref03_Sum.calls _ s _ W (ref_sum s (by omega) 0)).mono fun _ _ ⟨h1, h2⟩ => ⟨h1, h2.below⟩)
  have HMp : Hid (∀ W, Calls Try.prog 8 #[.int .u16 c, .string s] W fun e w' => e = .returned (.int .u16 (moreZ c s s.size)) ∧ Below W.heap.size W w') := Lib.hid (fun W => more_p c s W (by omega))
  have HMr : Hid (∀ W, Calls Try.prog 14 #[.int .u16 c, .string s] W fun e w' => e = .returned (.int .u16 (moreZ c s s.size)) ∧ Below W.heap.size W w') := Lib.hid (fun W => by
    have := ref_more (BitVec.ofNat 16 c.toNat) s (by omega) 0
    rw [V_of c hc.1 hc.2] at this
    exact (hourglassref03_More.calls _ c s _ W this).mono fun _ _ ⟨h1, h2⟩ => ⟨h1, h2.below⟩)
  have HEp : Hid (∀ W, Calls Try.prog 15 #[.string s] W fun e w' => e = .returned (.string (sealZ s)) ∧ Below W.heap.size W w') := Lib.hid (fun W => seal_p s W (by omega))
  have HEr : Hid (∀ W, Calls Try.prog 16 #[.string s] W fun e w' => e = .returned (.string (sealZ s)) ∧ Below W.heap.size W w') := Lib.hid (fun W => hourglassref03_Seal.calls _ s _ W (ref_seal s (by omega) 0))
  generalize (openZ s).1 = u at *
  generalize (openZ s).2 = b at *
  generalize sumZ s = x at *
  generalize moreZ c s s.size = y at *
  generalize sealZ s = z at *
  clear h hc
  have HB0 : Hid (Below w.heap.size w w) := Lib.hid (Below.refl _ _)
  go_enter Try.func4, Try.ntmps4
  go_wp2_with (first | (go_at_call 10; with_reducible refine (Calls.low HB0.out (HOp.out _)).mono ?_; rintro e w1 ⟨rfl, hb1⟩; have HB1 := Lib.hid hb1; clear hb1) | (go_at_call 11; with_reducible refine (Calls.low HB1.out (HOr.out _)).mono ?_; rintro e w2 ⟨rfl, hb2⟩; have HB2 := Lib.hid hb2; clear hb2) | (go_at_call 12; with_reducible refine (Calls.low HB2.out (HSp.out _)).mono ?_; rintro e w3 ⟨rfl, hb3⟩; have HB3 := Lib.hid hb3; clear hb3) | (go_at_call 13; with_reducible refine (Calls.low HB3.out (HSr.out _)).mono ?_; rintro e w4 ⟨rfl, hb4⟩; have HB4 := Lib.hid hb4; clear hb4) | (go_at_call 8; with_reducible refine (Calls.low HB4.out (HMp.out _)).mono ?_; rintro e w5 ⟨rfl, hb5⟩; have HB5 := Lib.hid hb5; clear hb5) | (go_at_call 14; with_reducible refine (Calls.low HB5.out (HMr.out _)).mono ?_; rintro e w6 ⟨rfl, hb6⟩; have HB6 := Lib.hid hb6; clear hb6) | (go_at_call 15; with_reducible refine (Calls.low HB6.out (HEp.out _)).mono ?_; rintro e w7 ⟨rfl, hb7⟩; have HB7 := Lib.hid hb7; clear hb7) | (go_at_call 16; with_reducible refine (Calls.low HB7.out (HEr.out _)).mono ?_; rintro e w8 ⟨rfl, hb8⟩; have HB8 := Lib.hid hb8; clear hb8) | (go_at_call 7; refine (Calls.low HB8.out (awake_p _)).mono ?_; rintro e w9 ⟨rfl, hb9⟩; have HB9 := Lib.hid hb9; clear hb9))
  go_ret
  exact ⟨rfl, HB9.out⟩

theorem tells_walk (s : ByteArray) (c : Int) (w : World) (hc : (Lit.int .u16 c).wf = true) :
    Calls Try.prog 4 #[.string s, .int .u16 c] w fun e w' => e = .returned (.bool true) ∧ Below w.heap.size w w' := by
  by_cases h : 2000 < s.size
  · exact tells_awake s c w (by omega)
  · exact tells_main s c w (by omega) (u16_of hc)

end Go.Proofs.Ytldmhoobpobinaa.Crc

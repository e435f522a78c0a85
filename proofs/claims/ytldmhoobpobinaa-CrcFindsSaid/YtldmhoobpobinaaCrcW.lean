/- CrcFinds returns true: the walk. -/
import Derived.Test.YtldmhoobpobinaaCrcF
set_option linter.unusedVariables false
set_option linter.unusedSimpArgs false
namespace Go.Proofs.Ytldmhoobpobinaa.Crc
open Go.Proofs.Ytldmhoobpobinaa.PCrcFinds (hourglassref03_Changed.l0 hourglassref03_Changed.f hourglassref03_Changed.calls)
open Go.RowKit Go.Proofs.Ytldmhoobpobinaa.Base Go.Proofs.YtldmhoobpobinaaW.PrintWords Go.Proofs.YtldmhoobpobinaaW.PrintMore

theorem finds_awake (s : ByteArray) (at' x y : Int) (w : World) (h : 2000 < (s.size : Int) ∨ ¬ 2000 < (s.size : Int) ∧ x = 0) :
    Calls Try.prog 6 #[.string s, .int .i64 at', .int .u8 x, .int .u8 y] w fun e w' => e = .returned (.bool true) ∧ Below w.heap.size w w' := by
  rcases h with h | ⟨h, rfl⟩
  all_goals
    go_enter Try.func6, Try.ntmps6
    go_wp2_with (go_at_call 7; refine (awake_p _).mono ?_; rintro e w5 ⟨rfl, ho5⟩; have HO5 := Lib.hid ho5; clear ho5)
    go_ret
    exact ⟨rfl, HO5.out⟩

theorem seal_call (s : ByteArray) (hs : s.size ≤ 2000) : ∀ W, Calls Try.prog 15 #[.string s] W fun e w' => e = .returned (.string (sealZ s)) ∧ Below W.heap.size W w' := fun W => seal_p s W (by omega)

theorem finds_far (s : ByteArray) (at' x y : Int) (w : World) (hs : s.size ≤ 2000) (hx : x ≠ 0) (h : at' < 0 ∨ ¬ at' < 0 ∧ (s.size : Int) + 2 ≤ at') :
    Calls Try.prog 6 #[.string s, .int .i64 at', .int .u8 x, .int .u8 y] w fun e w' => e = .returned (.bool true) ∧ Below w.heap.size w w' := by
  have HA := Lib.hid (seal_call s hs)
  have hz : ((sealZ s).size : Int) = s.size + 2 := by rw [seal_size]; omega
  have hxb : (x == 0) = false := by simpa using hx
  have h3 : ¬ 2000 < (s.size : Int) := by omega
  generalize sealZ s = z at *
  rcases h with h | ⟨h, h2⟩
  all_goals
    have h5 : (z.size : Int) ≤ at' ∨ at' < 0 := by omega
    try have h6 : (z.size : Int) ≤ at' := by omega
    clear hs hx hz h5
    go_enter Try.func6, Try.ntmps6
    go_wp2_with (first | (go_at_call 15; with_reducible refine (HA.out _).mono ?_; rintro e w1 ⟨rfl, hb1⟩; have HB1 := Lib.hid hb1; clear hb1) | (go_at_call 7; refine (awake_p _).mono ?_; rintro e w5 ⟨rfl, ho5⟩; have HO5 := Lib.hid ho5; clear ho5))
    go_ret
    exact ⟨rfl, HB1.out.trans (HO5.out.mono HB1.out.size)⟩

theorem chg_call (t : ByteArray) (j : Nat) (x : Int) (ht : t.size ≤ 5000) : ∀ W, Calls Try.prog 17 #[.string t, .int .i64 (j : Int), .int .u8 x] W fun e w' => e = .returned (.string (chg t j x)) ∧ Below W.heap.size W w' := fun W => hourglassref03_Changed.calls (t.size + 1) t (j : Int) x _ W (chg_f t j x ht)

set_option maxHeartbeats 1000000 in
theorem finds_one (s : ByteArray) (j : Nat) (x y : Int) (w : World) (hs : s.size ≤ 2000) (hx : 0 < x ∧ x ≤ 255) (h : j < s.size + 2) (h2 : (s.size : Int) - 1 ≤ j) :
    Calls Try.prog 6 #[.string s, .int .i64 (j : Int), .int .u8 x, .int .u8 y] w fun e w' => e = .returned (.bool true) ∧ Below w.heap.size w w' := by
  have HA := Lib.hid (seal_call s hs)
  have hz : ((sealZ s).size : Int) = s.size + 2 := by rw [seal_size]; omega
  have hzj : ¬ ((sealZ s).size : Int) ≤ j := by omega
  have hxb : (x == 0) = false := by have := hx.1; simp; omega
  have h3 : ¬ 2000 < (s.size : Int) := by omega
  have HF := Lib.hid (one_found (sealZ s) (seal_sum s) j (by rw [seal_size]; exact h) x hx)
  have HC := Lib.hid (chg_call (sealZ s) j x (by rw [seal_size]; omega))
  have HO : Hid (∀ W, Calls Try.prog 10 #[.string (chg (sealZ s) j x)] W fun e w' => e = .returned (.tuple #[.string ⟨#[]⟩, .bool false]) ∧ Below W.heap.size W w') := Lib.hid (fun W => open_no _ W (by rw [chg_size, seal_size]; omega) (.inr ⟨by rw [chg_size, seal_size]; omega, HF.out⟩))
  generalize chg (sealZ s) j x = u at *
  generalize sealZ s = z at *
  clear hz h HF hx
  go_enter Try.func6, Try.ntmps6
  go_wp2_with (first | (go_at_call 15; with_reducible refine (HA.out _).mono ?_; rintro e w1 ⟨rfl, hb1⟩; have HB1 := Lib.hid hb1; clear hb1) | (go_at_call 17; with_reducible refine (HC.out _).mono ?_; rintro e w2 ⟨rfl, hb2⟩; have HB2 := Lib.hid hb2; clear hb2) | (go_at_call 10; with_reducible refine (HO.out _).mono ?_; rintro e w3 ⟨rfl, hb3⟩; have HB3 := Lib.hid hb3; clear hb3) | (go_at_call 7; refine (awake_p _).mono ?_; rintro e w5 ⟨rfl, ho5⟩; have HO5 := Lib.hid ho5; clear ho5))
  go_ret
  have k2 := HB1.out.trans (HB2.out.mono HB1.out.size)
  have k3 := k2.trans (HB3.out.mono k2.size)
  exact ⟨rfl, k3.trans (HO5.out.mono k3.size)⟩

set_option maxHeartbeats 1000000 in
theorem finds_two (s : ByteArray) (j : Nat) (x y : Int) (w : World) (hs : s.size ≤ 2000) (hx : 0 < x ∧ x ≤ 255) (hy : 0 ≤ y ∧ y ≤ 255) (h2 : ¬ (s.size : Int) - 1 ≤ j) :
    Calls Try.prog 6 #[.string s, .int .i64 (j : Int), .int .u8 x, .int .u8 y] w fun e w' => e = .returned (.bool true) ∧ Below w.heap.size w w' := by
  have HA := Lib.hid (seal_call s hs)
  have hz : ((sealZ s).size : Int) = s.size + 2 := by rw [seal_size]; omega
  have hzj : ¬ ((sealZ s).size : Int) ≤ j := by omega
  have hxb : (x == 0) = false := by have := hx.1; simp; omega
  have h3 : ¬ 2000 < (s.size : Int) := by omega
  have HF := Lib.hid (one_found (sealZ s) (seal_sum s) j (by rw [seal_size]; omega) x hx)
  have HF2 := Lib.hid (two_found (sealZ s) (seal_sum s) j (by rw [seal_size]; omega) x y hx hy)
  have HC := Lib.hid (chg_call (sealZ s) j x (by rw [seal_size]; omega))
  have HC2 : Hid (∀ W, Calls Try.prog 17 #[.string (chg (sealZ s) j x), .int .i64 ((j : Int) + 1), .int .u8 y] W fun e w' => e = .returned (.string (chg (chg (sealZ s) j x) (j + 1) y)) ∧ Below W.heap.size W w') := Lib.hid (fun W => chg_call (chg (sealZ s) j x) (j + 1) y (by rw [chg_size, seal_size]; omega) W)
  have HO : Hid (∀ W, Calls Try.prog 10 #[.string (chg (sealZ s) j x)] W fun e w' => e = .returned (.tuple #[.string ⟨#[]⟩, .bool false]) ∧ Below W.heap.size W w') := Lib.hid (fun W => open_no _ W (by rw [chg_size, seal_size]; omega) (.inr ⟨by rw [chg_size, seal_size]; omega, HF.out⟩))
  have HO2 : Hid (∀ W, Calls Try.prog 10 #[.string (chg (chg (sealZ s) j x) (j + 1) y)] W fun e w' => e = .returned (.tuple #[.string ⟨#[]⟩, .bool false]) ∧ Below W.heap.size W w') := Lib.hid (fun W => open_no _ W (by rw [chg_size, chg_size, seal_size]; omega) (.inr ⟨by rw [chg_size, chg_size, seal_size]; omega, HF2.out⟩))
  generalize chg (chg (sealZ s) j x) (j + 1) y = v at *
  generalize chg (sealZ s) j x = u at *
  generalize sealZ s = z at *
  clear hz HF HF2 hx hy
  go_enter Try.func6, Try.ntmps6
  go_wp2_with (first | (go_at_call 15; with_reducible refine (HA.out _).mono ?_; rintro e w1 ⟨rfl, hb1⟩; have HB1 := Lib.hid hb1; clear hb1) | (go_at_call 17; with_reducible refine (HC.out _).mono ?_; rintro e w2 ⟨rfl, hb2⟩; (first | (have HP := Lib.hid (HB1.out.trans (hb2.mono HB1.out.size))) | (have HP2 := Lib.hid (HR.out.trans (hb2.mono HR.out.size)))); clear hb2) | (go_at_call 17; with_reducible refine (HC2.out _).mono ?_; rintro e w6 ⟨rfl, hb6⟩; have HS := Lib.hid (HP2.out.trans (hb6.mono HP2.out.size)); clear hb6) | (go_at_call 10; with_reducible refine (HO.out _).mono ?_; rintro e w3 ⟨rfl, hb3⟩; have HR := Lib.hid (HP.out.trans (hb3.mono HP.out.size)); clear hb3) | (go_at_call 10; with_reducible refine (HO2.out _).mono ?_; rintro e w7 ⟨rfl, hb7⟩; have HU := Lib.hid (HS.out.trans (hb7.mono HS.out.size)); clear hb7) | (go_at_call 7; refine (awake_p _).mono ?_; rintro e w5 ⟨rfl, ho5⟩; have HO5 := Lib.hid ho5; clear ho5))
  go_ret
  exact ⟨rfl, HU.out.trans (HO5.out.mono HU.out.size)⟩

theorem u8_of {a : Int} (h : (Lit.int .u8 a).wf = true) : 0 ≤ a ∧ a ≤ 255 := by
  simp [Lit.wf, IntKind.min, IntKind.max, IntKind.bits, IntKind.signed] at h
  omega

theorem finds_walk (s : ByteArray) (at' x y : Int) (w : World) (hx : (Lit.int .u8 x).wf = true) (hy : (Lit.int .u8 y).wf = true) :
    Calls Try.prog 6 #[.string s, .int .i64 at', .int .u8 x, .int .u8 y] w fun e w' => e = .returned (.bool true) ∧ Below w.heap.size w w' := by
  have hx := u8_of hx
  have hy := u8_of hy
  by_cases h : 2000 < s.size
  · exact finds_awake s at' x y w (.inl (by omega))
  by_cases h0 : x = 0
  · exact finds_awake s at' x y w (.inr ⟨by omega, h0⟩)
  by_cases h1 : at' < 0
  · exact finds_far s at' x y w (by omega) h0 (.inl h1)
  by_cases h2 : (s.size : Int) + 2 ≤ at'
  · exact finds_far s at' x y w (by omega) h0 (.inr ⟨h1, h2⟩)
  obtain ⟨j, rfl⟩ : ∃ j : Nat, at' = j := ⟨at'.toNat, by omega⟩
  by_cases h3 : (s.size : Int) - 1 ≤ j
  · exact finds_one s j x y w (by omega) ⟨by omega, hx.2⟩ (by omega) h3
  · exact finds_two s j x y w (by omega) ⟨by omega, hx.2⟩ hy h3

end Go.Proofs.Ytldmhoobpobinaa.Crc

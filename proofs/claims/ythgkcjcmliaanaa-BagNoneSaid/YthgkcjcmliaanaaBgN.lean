/- BagNone: the walk of the law. -/
import Derived.Test.YthgkcjcmliaanaaBgO
import Derived.Test.YthgkcjcmliaanaaArgs
set_option linter.unusedVariables false
set_option linter.unusedSimpArgs false
namespace Go.Proofs.Ythgkcjcmliaanaa.Bg
open Go.RowKit Go.Proofs.Ythgkcjcmliaanaa.Base Go.Proofs.Ythgkcjcmliaanaa.Rws Go.Proofs.YthgkcjcmliaanaaW.PrintWords Go.Proofs.YthgkcjcmliaanaaW.PrintMore
attribute [local go_sem] max2_mx min2_mn max_two min_two max_three min_three max_four min_four

theorem none_long (s : ByteArray) (k : Int) (w : World) (h : 200 < s.size) :
    Calls Try.prog 5 #[.string s, .int .i64 k] w fun e w' => e = .returned (.bool true) ∧ Below w.heap.size w w' := by
  have h' : (200 : Int) < s.size := by omega
  go_enter Try.func5, Try.ntmps5
  go_wp2_with (go_at_call 6; refine (awake_p _).mono ?_; rintro e w1 ⟨rfl, ho⟩; have HO := Lib.hid ho; clear ho)
  go_ret
  exact ⟨rfl, HO.out.below (Below.refl _ _) (Nat.le_refl _) (fun _ h => h.elim)⟩

/-- The first so many. -/
def LN (s : ByteArray) (i : Nat) : List Fl := List.replicate i ⟨0, 0, s, false⟩

theorem LN_ok (s : ByteArray) (hs : s.size ≤ 200) (i : Nat) (hi : i ≤ 256) (n : Int) (h0 : 0 ≤ n) (h1 : n ≤ 2) : Ok ⟨LN s i, n⟩ :=
  ⟨by simpa [LN] using hi, h0, by simp only; omega, fun x hx => by
    have := List.eq_of_mem_replicate hx
    subst this
    simp only
    omega⟩

set_option maxHeartbeats 8000000 in
set_option maxRecDepth 100000 in
theorem none_short (s : ByteArray) (k : Int) (w : World) (h : s.size ≤ 200) :
    Calls Try.prog 5 #[.string s, .int .i64 k] w fun e w' => e = .returned (.bool true) ∧ Below w.heap.size w w' := by
  have h' : ¬ (200 : Int) < s.size := by omega
  have HS := Lib.hid h
  clear h
  go_enter Try.func5, Try.ntmps5
  go_wp2_with fail
  refine (take_no (.pointer none) k 1 (.inl rfl) w fl0 (fun w1 _ => look_nil' k w1)).mono ?_
  rintro e w1 ⟨rfl, o1⟩
  have O1 : Hid (Only (fun _ => False) w (w1.alloc (.cells #[.int .i64 0, .int .i64 0, .string ⟨#[]⟩, .bool false] 29))) := Lib.hid (o1.alloc _)
  clear o1
  unfold Fl.v fl0
  go_wp2_with fail
  generalize w1.alloc (.cells #[.int .i64 0, .int .i64 0, .string ⟨#[]⟩, .bool false] 29) = w2 at *
  refine (look_nil' _ _).mono ?_
  rintro e w3 ⟨rfl, o3⟩
  have O3 : Hid (Only (fun _ => False) w (w3.alloc (.cells #[.int .i64 0, .int .i64 0, .string ⟨#[]⟩, .bool false] 29))) := Lib.hid ((O1.out.trans o3).alloc _)
  clear o3
  go_wp2_with fail
  generalize w3.alloc (.cells #[.int .i64 0, .int .i64 0, .string ⟨#[]⟩, .bool false] 29) = w4 at *
  refine (send_nil ⟨0, 0, s, false⟩ _).mono ?_
  rintro e w5 ⟨rfl, o5⟩
  have O5 := Lib.hid (O3.out.trans o5)
  clear o5
  go_wp2_with fail
  refine (twice_nil _ _).mono ?_
  rintro e w6 ⟨rfl, o6⟩
  have O6 := Lib.hid (O5.out.trans o6)
  clear o6
  go_wp2_with fail
  refine (hurt_nil _ _ _ _).mono ?_
  rintro e w7 ⟨rfl, o7⟩
  have O7 := Lib.hid (O6.out.trans o7)
  clear o7
  go_wp2_with fail
  refine (len_nil _).mono ?_
  rintro e w8 ⟨rfl, rfl⟩
  go_wp2_with fail
  refine (lost_nil _).mono ?_
  rintro e w8 ⟨rfl, rfl⟩
  go_wp2_with fail
  refine (new_o _).mono ?_
  rintro e w8 ⟨rfl, h8, o8⟩
  have hw8 := O7.out.size
  obtain ⟨B, hB⟩ : ∃ B, B = w7.heap.size := ⟨_, rfl⟩
  rw [← hB] at h8 ⊢
  have H8 : Hid (Bo w8 B B ⟨LN s 0, 0⟩) := Lib.hid h8
  have O8 : Hid (Below w.heap.size w w8) := Lib.hid ((O7.out.trans o8).below (Below.refl _ _) (Nat.le_refl _) (fun _ h => h.elim))
  have hwB : w.heap.size ≤ B := by omega
  clear h8 o8 hB
  go_wp2
  go_loopw [11] (fun vi wr => ∃ i : Nat, vi = .int .i64 (i : Int) ∧ i ≤ 256 ∧ Hid (Bo wr B B ⟨LN s i, 0⟩) ∧ Hid (Below w.heap.size w wr)) (fun vi _ => 256 - (intOf vi).toNat)
  case atStart => exact ⟨0, rfl, by omega, H8, O8⟩
  case round =>
    obtain ⟨i, rfl, hi, HB, HO⟩ := hrel
    have hgo : i < 256 ∨ i = 256 := by omega
    rcases hgo with hlt | rfl
    · have hlt' : (i : Int) < 256 := by omega
      have hsd := send_o HB.out (LN_ok s HS.out i hi 0 (by omega) (by omega)) ⟨0, 0, s, false⟩
      have hm : sendM ⟨LN s i, 0⟩ ⟨0, 0, s, false⟩ = (0, ⟨LN s (i + 1), 0⟩) := by
        unfold sendM
        rw [if_neg (by simp [LN]; omega)]
        simp [LN, List.replicate_succ']
      rw [hm] at hsd
      have HSD : Hid (Calls Try.prog 8 #[.pointer (some ⟨B, 0, none⟩), .agg #[.int .i64 0, .int .i64 0, .string s, .bool false]] wr fun e w' => e = .returned (.int .i64 0) ∧ Bo w' B B ⟨LN s (i + 1), 0⟩ ∧ Only (fun k => B ≤ k) wr w') := Lib.hid hsd
      clear hsd hm
      go_wp2_with (go_at_call 8; refine HSD.out.mono ?_; rintro e w9 ⟨rfl, h9, o9⟩; have H9 := Lib.hid h9; have O9 := Lib.hid (o9.below HO.out HO.out.size (fun k hk => by omega)); clear h9 o9)
      go_roundw
      case rel => exact ⟨i + 1, by go_num, by omega, H9, O9⟩
      case measure => simp [intOf]; omega
    · have hl : (LN s 256).length = 256 := by simp [LN]
      have hm1 : sendM ⟨LN s 256, 0⟩ fl0 = (6, ⟨LN s 256, 1⟩) := by unfold sendM; rw [if_pos (by simp [LN])]; rfl
      have hm2 : twiceM ⟨LN s 256, 1⟩ 9 = (6, ⟨LN s 256, 2⟩) := by
        have : lookF (LN s 256) 9 = (⟨0, 0, s, false⟩, 0) := by
          unfold lookF LN
          rw [if_neg (by decide), List.getElem?_replicate, if_pos (by decide)]
        unfold twiceM sendM
        simp only [this]
        rw [if_pos trivial, if_pos (by simp [LN])]
        rfl
      have H1 : Hid (∀ w0, Bo w0 B B ⟨LN s 256, 0⟩ → Calls Try.prog 8 #[.pointer (some ⟨B, 0, none⟩), .agg #[.int .i64 0, .int .i64 0, .string ⟨#[]⟩, .bool false]] w0 fun e w' => e = .returned (.int .i64 6) ∧ Bo w' B B ⟨LN s 256, 1⟩ ∧ Only (fun k => B ≤ k) w0 w') := Lib.hid (fun w0 h => by
        have := send_o h (LN_ok s HS.out 256 (by omega) 0 (by omega) (by omega)) fl0
        rw [hm1] at this
        exact this)
      have H2 : Hid (∀ w0, Bo w0 B B ⟨LN s 256, 1⟩ → Calls Try.prog 9 #[.pointer (some ⟨B, 0, none⟩), .int .i64 9] w0 fun e w' => e = .returned (.int .i64 6) ∧ Bo w' B B ⟨LN s 256, 2⟩ ∧ Only (fun k => B ≤ k) w0 w') := Lib.hid (fun w0 h => by
        have := twice_o h (LN_ok s HS.out 256 (by omega) 1 (by omega) (by omega)) 9
        rw [hm2] at this
        exact this)
      have H3 : Hid (∀ w0, Bo w0 B B ⟨LN s 256, 2⟩ → Calls Try.prog 12 #[.pointer (some ⟨B, 0, none⟩)] w0 fun e w' => e = .returned (.int .i64 256) ∧ w0 = w') := Lib.hid (fun w0 h => by
        have := len_o h
        simp only [hl] at this
        exact this)
      have H4 : Hid (∀ w0, Bo w0 B B ⟨LN s 256, 2⟩ → Calls Try.prog 15 #[.pointer (some ⟨B, 0, none⟩)] w0 fun e w' => e = .returned (.int .i64 2) ∧ w0 = w') := Lib.hid (fun w0 h => lost_o h)
      clear hl hm1 hm2
      go_wp2_with fail
      refine (H1.out _ HB.out).mono ?_
      rintro e w9 ⟨rfl, h9, o9⟩
      have H9 := Lib.hid h9
      have O9 := Lib.hid (o9.below HO.out HO.out.size (fun k hk => by omega))
      clear h9 o9
      go_wp2_with fail
      refine (H2.out _ H9.out).mono ?_
      rintro e w10 ⟨rfl, h10, o10⟩
      have H10 := Lib.hid h10
      have O10 := Lib.hid (o10.below O9.out O9.out.size (fun k hk => by omega))
      clear h10 o10
      go_wp2_with fail
      refine (H3.out _ H10.out).mono ?_
      rintro e w11 ⟨rfl, rfl⟩
      go_wp2_with fail
      refine (H4.out _ H10.out).mono ?_
      rintro e w11 ⟨rfl, rfl⟩
      go_wp2_with (go_at_call 6; refine (awake_p _).mono ?_; rintro e w12 ⟨rfl, ho⟩; have HA := Lib.hid ho; clear ho)
      go_ret
      exact ⟨rfl, HA.out.below O10.out O10.out.size (fun _ h => h.elim)⟩

theorem none_walk (s : ByteArray) (k : Int) (w : World) :
    Calls Try.prog 5 #[.string s, .int .i64 k] w fun e w' => e = .returned (.bool true) ∧ Below w.heap.size w w' := by
  by_cases h : 200 < s.size
  · exact none_long s k w h
  · exact none_short s k w (by omega)

end Go.Proofs.Ythgkcjcmliaanaa.Bg

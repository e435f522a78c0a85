/- The contract of the reference's Hurt. -/
import Derived.Test.YthgkcjcmliaanaaBgP
import Derived.Test.YthgkcjcmliaanaaBgS
import Derived.Test.YthgkcjcmliaanaaPBagPlaysx1
import Derived.Deep.MidRow
set_option linter.unusedVariables false
set_option linter.unusedSimpArgs false
namespace Go.Proofs.Ythgkcjcmliaanaa.Bg
open Go.RowKit Go.Proofs.Ythgkcjcmliaanaa.Base Go.Proofs.Ythgkcjcmliaanaa.Rws Go.Proofs.YthgkcjcmliaanaaW.PrintWords Go.Proofs.YthgkcjcmliaanaaW.PrintMore
attribute [local go_sem] max2_mx min2_mn max_two min_two max_three min_three max_four min_four

set_option maxHeartbeats 1000000 in
/-- Nothing is spoilt. -/
theorem rhurt_no {g : Nat} {v : Value} {lost : Int} {P : Nat → Prop} {L : List Fl} (w : World) (hb : RG w g v lost) (hL : Rfs w P v L) (k a b : Int) {x : Fl} {e0 : Int} (h : lookF L k = (x, e0)) (he : e0 = 7 ∨ e0 = 0 ∧ hurtE x a b ≠ 0) (hsz : x.s.size ≤ 100000) :
    Calls Try.prog 21 #[.pointer (some ⟨g, 0, none⟩), .int .i64 k, .int .i64 a, .int .i64 b] w fun e w' => e = .returned (.int .i64 (if e0 = 0 then hurtE x a b else e0)) ∧ Only (fun _ => False) w w' := by
  have HLK := Lib.hid (rlook_p w hb hL k h)
  have hsz' : (x.s.size : Int) ≤ 100000 := by omega
  clear hb hL h
  rcases he with rfl | ⟨rfl, he⟩
  · rw [if_neg (by decide)]
    go_enter Try.func21, Try.ntmps21
    go_wp2_with (go_at_call 22; refine HLK.out.mono ?_; rintro e w1 ⟨rfl, ho⟩; have HO := Lib.hid ho; clear ho)
    go_ret
    exact ⟨rfl, HO.out.alloc _⟩
  · rw [if_pos rfl]
    obtain ⟨xf, xt, xs, xh⟩ := x
    unfold hurtE at he ⊢
    simp only at he hsz' HLK ⊢
    cases xh
    · simp only [Bool.false_eq_true, if_false] at he ⊢
      by_cases hc : a < 0 ∨ (xs.size : Int) ≤ a ∨ b < 1 ∨ 255 < b
      · rw [if_pos hc]
        clear he
        have hcs : a < 0 ∨ (¬ a < 0 ∧ (xs.size : Int) ≤ a) ∨ (¬ a < 0 ∧ ¬ (xs.size : Int) ≤ a ∧ b < 1) ∨ (¬ a < 0 ∧ ¬ (xs.size : Int) ≤ a ∧ ¬ b < 1 ∧ 255 < b) := by omega
        clear hc
        rcases hcs with h1 | ⟨h1, h2⟩ | ⟨h1, h2, h3⟩ | ⟨h1, h2, h3, h4⟩
        all_goals
          go_enter Try.func21, Try.ntmps21
          go_wp2_with (go_at_call 22; refine HLK.out.mono ?_; rintro e w1 ⟨rfl, ho⟩; have HO := Lib.hid ho; clear ho)
          go_ret
          exact ⟨rfl, HO.out.alloc _⟩
      · rw [if_neg hc] at he
        exact absurd rfl he
    · simp only [if_true] at he ⊢
      go_enter Try.func21, Try.ntmps21
      go_wp2_with (go_at_call 22; refine HLK.out.mono ?_; rintro e w1 ⟨rfl, ho⟩; have HO := Lib.hid ho; clear ho)
      go_ret
      exact ⟨rfl, HO.out.alloc _⟩


/-! ### A byte changed -/
open Go.Proofs.Ythgkcjcmliaanaa.PBagPlays in
theorem chg_l0 (s : ByteArray) (a : Nat) (x : Int) (hs : s.size ≤ 100000) : ∀ (f i : Nat), i ≤ s.size → s.size - i < f → hourglassref03_Changed.l0 f s (a : Int) x ((chgL s a x).take i) (i : Int) = some (chgB s a x)
  | 0, i, _, h => by omega
  | f + 1, i, hi, h => by
    unfold hourglassref03_Changed.l0
    by_cases hlt : i < s.size
    · have hln : ((chgL s a x).take i).length < 140737488355328 := by rw [List.length_take, chgL_len]; omega
      have hw : wrap64 ((i : Int) + 1) = ((i + 1 : Nat) : Int) := by unfold wrap64; omega
      have ih := chg_l0 s a x hs f (i + 1) (by omega) (by omega)
      have htk : (chgL s a x).take (i + 1) = (chgL s a x).take i ++ [(chgL s a x).getD i 0] := by
        rw [List.take_add_one, List.getD_eq_getElem?_getD, List.getElem?_eq_getElem (by rw [chgL_len]; exact hlt)]
        rfl
      have hg : (chgL s a x).getD i 0 = if i = a then bits .xor .u8 (bt s (i : Int)) x else bt s (i : Int) := by
        unfold chgL
        rw [List.getD_eq_getElem?_getD, List.getElem?_set]
        by_cases hia : a = i
        · subst hia
          rw [if_pos rfl, if_pos (by rw [nums_len]; exact hlt), if_pos rfl, bt_nums s a hlt]
          rfl
        · rw [if_neg hia, if_neg (fun e => hia e.symm), bt_nums s i hlt, List.getD_eq_getElem?_getD]
      rw [if_pos (by omega), if_pos (by omega), hw]
      by_cases hia : i = a
      · rw [if_pos hia] at hg
        rw [if_pos (by omega), if_pos hln, ← hg, ← htk]
        exact ih
      · rw [if_neg hia] at hg
        rw [if_neg (by omega), if_pos hln, ← hg, ← htk]
        exact ih
    · rw [if_neg (by omega), List.take_of_length_le (by rw [chgL_len]; omega)]
      rfl

theorem changed_p (s : ByteArray) (a : Nat) (x : Int) (hs : s.size ≤ 100000) (w : World) :
    Calls Try.prog 23 #[.string s, .int .i64 (a : Int), .int .u8 x] w fun e w' => e = .returned (.string (chgB s a x)) ∧ Only (fun _ => False) w w' :=
  (Go.Proofs.Ythgkcjcmliaanaa.PBagPlays.hourglassref03_Changed.calls (s.size + 1) s a x _ w (chg_l0 s a x hs (s.size + 1) 0 (by omega) (by omega))).mono fun e w' ⟨he, hb⟩ => ⟨he, Only.of_below hb⟩

/-- Flights are put behind flights. -/
theorem Rfs.apps {W : World} {P Q : Nat → Prop} {v : Value} {L M : List Fl} {A : Option Addr} {m c : Nat} (h : Rfs W P v L) (hm : m = M.length) (hM : Rfs W Q (.slice A m c) M) (hP : ∀ k, W.heap.size ≤ k → P k) (hl : L.length + M.length ≤ 2000) (ty : TypeId) :
    ∃ v1 w1, (Builtin.append_ #[40, 40] ty #[v, .slice A m c]).run Try.prog W = .ok v1 w1 ∧ Rfs w1 P v1 (L ++ M) ∧ Only (fun k => v.ownBlock = some k) W w1 := by
  subst hm
  by_cases h0 : M.length = 0
  · have : M = [] := List.length_eq_zero_iff.1 h0
    subst this
    refine ⟨v, W, Row.app0 h Try.underlying40 info30 A c, by simpa using h, Only.refl _ _⟩
  · obtain ⟨g, o, c', hv, _⟩ := Row.some_ hM (by omega)
    injection hv with e1 e2 e3
    subst e1 e3
    obtain ⟨v1, w1, hr, hR, ho⟩ := Row.app (ty := ty) h Try.underlying40 info30 (by rfl) hP ⟨g, o, none⟩ M.length c (M.flatMap encF) (encF_len M) (fun j u hu => by rw [Addr.add_lit]; exact Row.cell hM j hu) (encF_one M) (by omega) (by omega) (by omega)
    refine ⟨v1, w1, hr, ?_, ho⟩
    unfold Rfs
    rw [List.length_append, List.flatMap_append]
    exact hR

theorem encF_put : ∀ (L : List Fl) (k : Nat) (x y : Fl), L[k]? = some x → (((((L.flatMap encF).set (k * 4) (.int .i64 y.f)).set (k * 4 + 1) (.int .i64 y.t)).set (k * 4 + 2) (.string y.s)).set (k * 4 + 3) (.bool y.h)) = (L.set k y).flatMap encF
  | [], k, x, y, h => by simp at h
  | z :: L, 0, x, y, h => by
    simp [encF]
  | z :: L, k + 1, x, y, h => by
    have ih := encF_put L k x y (by simpa using h)
    rw [List.flatMap_cons, List.set_append_right _ _ (by simp [encF]; omega), List.set_append_right _ _ (by simp [encF]; omega), List.set_append_right _ _ (by simp [encF]; omega), List.set_append_right _ _ (by simp [encF]; omega), List.set_cons_succ, List.flatMap_cons, ← ih]
    congr 1
    congr 2
    · congr 2
      · simp [encF]; omega
      · simp [encF]; omega
    · simp [encF]; omega
    · simp [encF]; omega

end Go.Proofs.Ythgkcjcmliaanaa.Bg

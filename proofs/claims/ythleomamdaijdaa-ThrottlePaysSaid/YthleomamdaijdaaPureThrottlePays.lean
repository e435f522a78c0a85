/- The pure statement of ThrottlePays: ten successes pay for one failure, and one less is not enough. No condition beyond the arguments' ranges. -/
import Derived.Test.YthleomamdaijdaaOThrottlePays3
namespace Go.Proofs.Ythleomamdaijdaa.Pure
open Go.RowKit Go.Proofs.Ythleomamdaijdaa.OThrottlePays Go.Proofs.YthleomamdaijdaaW.PrintWords Go.Proofs.YthleomamdaijdaaW.PrintLast Go.Proofs.YthleomamdaijdaaW.PrintMore

/-- How many tokens there are. -/
def tok (a : Int) : Int := if a < 1 then 1 else if a > 1000 then 1000 else a

theorem tok_bounds (a : Int) : 1 ≤ tok a ∧ tok a ≤ 1000 := by
  unfold tok; repeat' split
  all_goals omega

theorem full_p (a : Int) : throttle_Full.f a = some (1000 * tok a) := by
  unfold throttle_Full.f tok mn mx
  congr 1
  repeat' split
  all_goals omega

/-- What there is, from 0 to the most. -/
def cln (h m : Int) : Int := if h < 0 then 0 else if h > 1000 * m then 1000 * m else h

theorem cln_bounds (h m : Int) (hm : 1 ≤ m) : 0 ≤ cln h m ∧ cln h m ≤ 1000 * m := by
  unfold cln; repeat' split
  all_goals omega

theorem cln_same (h m : Int) (h0 : 0 ≤ h) (h1 : h ≤ 1000 * m) : cln h m = h := by
  unfold cln; repeat' split
  all_goals omega

theorem clean_p (h a : Int) : throttle_clean.f h a = some (cln h (tok a)) := by
  have hm := tok_bounds a
  unfold throttle_clean.f
  rw [full_p, Option.bind_some]
  congr 1
  generalize tok a = m at *
  unfold mn mx cln
  repeat' split
  all_goals omega

/-- Behind a failure, and behind a success. -/
def bd (h m : Int) : Int := if cln h m < 1000 then 0 else cln h m - 1000
def gd (h m : Int) : Int := if cln h m + 100 > 1000 * m then 1000 * m else cln h m + 100

theorem bad_p (h a : Int) : throttle_Bad.f h a = some (bd h (tok a)) := by
  have hm := tok_bounds a
  have hc := cln_bounds h (tok a) hm.1
  unfold throttle_Bad.f bd
  rw [clean_p, Option.bind_some]
  congr 1
  generalize cln h (tok a) = c at *
  generalize tok a = m at *
  have e : wrap64 (c - 1000) = c - 1000 := by unfold wrap64; omega
  rw [e]
  unfold mx
  repeat' split
  all_goals omega

theorem good_p (h a : Int) : throttle_Good.f h a = some (gd h (tok a)) := by
  have hm := tok_bounds a
  have hc := cln_bounds h (tok a) hm.1
  unfold throttle_Good.f gd
  rw [clean_p, full_p, Option.bind_some, Option.bind_some]
  congr 1
  generalize cln h (tok a) = c at *
  generalize tok a = m at *
  have e : wrap64 (c + 100) = c + 100 := by unfold wrap64; omega
  rw [e]
  unfold mn
  repeat' split
  all_goals omega

theorem may_p (h a : Int) : throttle_May.f h a = some (decide (2 * cln h (tok a) > 1000 * tok a)) := by
  have hm := tok_bounds a
  have hc := cln_bounds h (tok a) hm.1
  unfold throttle_May.f
  rw [clean_p, full_p, Option.bind_some, Option.bind_some]
  generalize cln h (tok a) = c at *
  generalize tok a = m at *
  have e : wrap64 (2 * c) = 2 * c := by unfold wrap64; omega
  rw [e]

/-- Behind one of both; behind many. -/
def one (m h : Int) (g : Bool) : Int := if g = true then gd h m else bd h m
def many (m : Int) (l : List Bool) (h : Int) : Int := l.foldl (one m) h

theorem plays_l (a : Int) (l : List Bool) (hn : (l.length : Int) ≤ 9223372036854775807) (d : Nat) : ∀ (k i : Nat) (h : Int), l.length - i = d → i ≤ l.length → d < k →
    throttle_Plays.l0 k a h l (l.length : Int) (i : Int) = some (many (tok a) (l.drop i) h) := by
  induction d with
  | zero =>
    intro k i h hd hi hk
    obtain ⟨k, rfl⟩ : ∃ m, k = m + 1 := ⟨k - 1, by omega⟩
    simp only [throttle_Plays.l0]
    rw [if_neg (by omega), List.drop_of_length_le (by omega)]; rfl
  | succ d ih =>
    intro k i h hd hi hk
    obtain ⟨k, rfl⟩ : ∃ m, k = m + 1 := ⟨k - 1, by omega⟩
    have hlt : i < l.length := by omega
    have e : wrap64 ((i : Int) + 1) = ((i + 1 : Nat) : Int) := by unfold wrap64; omega
    have r : rdOf false l (i : Int) = l[i] := by simp [rdOf, hlt]
    simp only [throttle_Plays.l0]
    rw [if_pos (by omega), if_pos (by omega), if_pos (by omega), r, good_p, bad_p, Option.bind_some, Option.bind_some, e, ih k (i + 1) _ (by omega) (by omega) (by omega), ih k (i + 1) _ (by omega) (by omega) (by omega), List.drop_eq_getElem_cons hlt]
    by_cases g : l[i] = true
    · rw [if_pos g]; simp [many, one, g]
    · rw [if_neg g]; simp [many, one, g]

theorem plays_p (a : Int) (l : List Bool) (hn : (l.length : Int) ≤ 9223372036854775807) (k : Nat) (hk : l.length < k) : throttle_Plays.f k a l = some (many (tok a) l (1000 * tok a)) := by
  unfold throttle_Plays.f
  rw [full_p, Option.bind_some]
  exact plays_l a l hn l.length k 0 _ (by omega) (by omega) hk

theorem many_bad (m : Int) (hm : 1 ≤ m) (n : Nat) : ∀ h, 0 ≤ h → h ≤ 1000 * m → many m (List.replicate n false) h = if h < 1000 * n then 0 else h - 1000 * n := by
  induction n with
  | zero => intro h h0 h1; simp [many]; omega
  | succ n ih =>
    intro h h0 h1
    have hb : bd h m = if h < 1000 then 0 else h - 1000 := by unfold bd; rw [cln_same h m h0 h1]
    have : many m (List.replicate (n + 1) false) h = many m (List.replicate n false) (bd h m) := by simp [many, one, List.replicate_succ]
    rw [this, hb]
    by_cases c : h < 1000
    · rw [if_pos c, ih 0 (by omega) (by omega)]
      split <;> split <;> omega
    · rw [if_neg c, ih _ (by omega) (by omega)]
      split <;> split <;> omega

theorem many_good (m : Int) (hm : 1 ≤ m) (n : Nat) : ∀ h, 0 ≤ h → h ≤ 1000 * m → many m (List.replicate n true) h = if h + 100 * n > 1000 * m then 1000 * m else h + 100 * n := by
  induction n with
  | zero => intro h h0 h1; simp [many]; omega
  | succ n ih =>
    intro h h0 h1
    have hb : gd h m = if h + 100 > 1000 * m then 1000 * m else h + 100 := by unfold gd; rw [cln_same h m h0 h1]
    have : many m (List.replicate (n + 1) true) h = many m (List.replicate n true) (gd h m) := by simp [many, one, List.replicate_succ]
    rw [this, hb]
    by_cases c : h + 100 > 1000 * m
    · rw [if_pos c, ih _ (by omega) (by omega)]
      split <;> split <;> omega
    · rw [if_neg c, ih _ (by omega) (by omega)]
      split <;> split <;> omega

theorem awake (k : Nat) (hk : 6 ≤ k) : hourglasslaw19_awake.f k = some true := by
  refine at_rounds hourglasslaw19_awake.mono hk ?_
  decide +kernel

theorem full_r (a : Int) : hourglassref19_Full.f a = some (1000 * tok a) := by
  unfold hourglassref19_Full.f tok
  by_cases h1 : a < 1
  · rw [if_pos h1, if_pos h1]; rfl
  · rw [if_neg h1, if_neg h1]
    by_cases h2 : a > 1000
    · rw [if_pos h2, if_pos h2]
    · rw [if_neg h2, if_neg h2]; congr 1; unfold wrap64; omega

theorem l0_pays (a n m : Int) (j : Nat) (hj : n = j) (hj2 : j ≤ 255) (d : Nat) : ∀ (k i : Nat), 10 * j - i = d → i ≤ 10 * j → d < k →
    hourglasslaw19_ThrottlePays.l0 (k + 1) a n m (List.replicate j false ++ List.replicate i true) (i : Int) =
    hourglasslaw19_ThrottlePays.l0 (k + 1 - d) a n m (List.replicate j false ++ List.replicate (10 * j) true) ((10 * j : Nat) : Int) := by
  induction d with
  | zero =>
    intro k i hd hi hk
    have e : i = 10 * j := by omega
    subst e; rfl
  | succ d ih =>
    intro k i hd hi hk
    obtain ⟨k, rfl⟩ : ∃ m, k = m + 1 := ⟨k - 1, by omega⟩
    have h := ih k (i + 1) (by omega) (by omega) (by omega)
    rw [show k + 1 + 1 - (d + 1) = k + 1 - d by omega, ← h]
    have e1 : wrap64 (10 * n) = 10 * j := by rw [hj]; unfold wrap64; omega
    have e2 : wrap64 ((i : Int) + 1) = ((i + 1 : Nat) : Int) := by unfold wrap64; omega
    rw [show k + 1 + 1 = (k + 1) + 1 from rfl]
    conv => lhs; unfold hourglasslaw19_ThrottlePays.l0
    rw [e1, if_pos (by omega), if_pos (by simp; omega), e2, List.append_assoc]
    rw [show List.replicate i true ++ [true] = List.replicate (i + 1) true from (List.replicate_succ').symm]

theorem many_append (m : Int) (l r : List Bool) (h : Int) : many m (l ++ r) h = many m r (many m l h) := by simp [many]

theorem ThrottlePays : hourglasslaw19_ThrottlePays.Pure := by
  intro a n _ hn
  have hw : 0 ≤ n ∧ n ≤ 255 := by simp [Lit.wf, IntKind.min, IntKind.max, IntKind.bits, IntKind.signed] at hn; omega
  have hm := tok_bounds a
  obtain ⟨j, rfl⟩ := Int.eq_ofNat_of_zero_le hw.1
  have e0 : wrap64 ((j : Nat) : Int) = j := by unfold wrap64; omega
  have e1 : wrap64 (Int.tdiv (1000 * tok a) 1000) = tok a := by rw [Int.tdiv_eq_ediv_of_nonneg (by omega)]; unfold wrap64; omega
  obtain ⟨q, hq⟩ : ∃ q : Nat, q = 5999 := ⟨_, rfl⟩
  refine ⟨q + 1 + 10 * j, ?_⟩
  unfold hourglasslaw19_ThrottlePays.f
  rw [full_r, Option.bind_some, e0, e1, if_pos (by omega), Int.toNat_natCast, if_pos (by omega)]
  have h := l0_pays a j (tok a) j rfl (by omega) (10 * j) (q + 10 * j) 0 (by omega) (by omega) (by omega)
  rw [List.replicate_zero, List.append_nil, show q + 10 * j + 1 = q + 1 + 10 * j by omega, show q + 1 + 10 * j - 10 * j = q + 1 by omega] at h
  rw [show (0 : Int) = ((0 : Nat) : Int) from rfl, h]
  have hl : (List.replicate j false ++ List.replicate (10 * j) true).length = 11 * j := by simp; omega
  simp only [hourglasslaw19_ThrottlePays.l0]
  have e2 : wrap64 (10 * (j : Int)) = 10 * j := by unfold wrap64; omega
  rw [e2, if_neg (by omega), plays_p a _ (by rw [hl]; omega) q (by rw [hl]; omega), Option.bind_some, many_append, many_bad _ hm.1 j _ (by omega) (by omega)]
  have e3 : wrap64 (1000 * tok a) = 1000 * tok a := by unfold wrap64; omega
  have full : many (tok a) (List.replicate (10 * j) true) (if 1000 * tok a < 1000 * j then 0 else 1000 * tok a - 1000 * j) = 1000 * tok a := by
    by_cases c : 1000 * tok a < 1000 * j
    · rw [if_pos c, many_good _ hm.1 _ _ (by omega) (by omega), if_pos (by omega)]
    · rw [if_neg c, many_good _ hm.1 _ _ (by omega) (by omega)]
      by_cases c2 : 1000 * tok a - 1000 * j + 100 * ((10 * j : Nat) : Int) > 1000 * tok a
      · rw [if_pos c2]
      · rw [if_neg c2]; omega
  rw [full, e3, if_pos rfl]
  have yes : hourglasslaw19_ThrottlePays.j1 q a (tok a) (List.replicate j false ++ List.replicate (10 * j) true) true = some true := by
    obtain ⟨p, rfl⟩ : ∃ p, q = p + 1 := ⟨q - 1, by omega⟩
    simp only [hourglasslaw19_ThrottlePays.j1]
    rw [if_pos trivial, awake p (by omega)]; rfl
  by_cases c0 : (j : Int) = 0
  · rw [if_pos c0]; exact yes
  · rw [if_neg c0]
    by_cases c1 : (j : Int) > tok a
    · rw [decide_eq_true c1]; exact yes
    · obtain ⟨p, rfl⟩ : ∃ p, q = p + 1 := ⟨q - 1, by omega⟩
      rw [decide_eq_false c1]
      simp only [hourglasslaw19_ThrottlePays.j1]
      have e4 : wrap64 (((List.replicate j false ++ List.replicate (10 * j) true).length : Int) - 1) = ((11 * j - 1 : Nat) : Int) := by rw [hl]; unfold wrap64; omega
      rw [if_neg (by decide), e4, if_pos (by omega), if_pos (by rw [hl]; omega), Int.toNat_natCast]
      have e5 : (List.replicate j false ++ List.replicate (10 * j) true).take (11 * j - 1) = List.replicate j false ++ List.replicate (10 * j - 1) true := by
        rw [List.take_append, List.take_replicate, List.take_replicate, List.length_replicate, Nat.min_eq_right (by omega), Nat.min_eq_left (by omega), show 11 * j - 1 - j = 10 * j - 1 by omega]
      have v : many (tok a) (List.replicate j false ++ List.replicate (10 * j - 1) true) (1000 * tok a) = 1000 * tok a - 100 := by
        rw [many_append, many_bad _ hm.1 j _ (by omega) (by omega), if_neg (by omega), many_good _ hm.1 _ _ (by omega) (by omega), if_neg (by omega)]; omega
      rw [e5, plays_p a _ (by simp; omega) p (by simp; omega), Option.bind_some, v, if_pos (by unfold wrap64; omega), awake p (by omega)]; rfl

end Go.Proofs.Ythleomamdaijdaa.Pure

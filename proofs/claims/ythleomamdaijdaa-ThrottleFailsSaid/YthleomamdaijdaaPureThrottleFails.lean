/- The pure statement of ThrottleFails: behind n failures, at most 1000, there is what the document says, and it may be tried again behind less than the half. No condition beyond the arguments' ranges. -/
import Derived.Test.YthleomamdaijdaaPThrottleFailsx3
namespace Go.Proofs.Ythleomamdaijdaa.Pure
open Go.RowKit Go.Proofs.Ythleomamdaijdaa.PThrottleFails Go.Proofs.YthleomamdaijdaaW.PrintWords Go.Proofs.YthleomamdaijdaaW.PrintLast Go.Proofs.YthleomamdaijdaaW.PrintMore

/-- How many tokens there are. -/
def tok (a : Int) : Int := if a < 1 then 1 else if a > 1000 then 1000 else a

theorem tok_bounds (a : Int) : 1 ≤ tok a ∧ tok a ≤ 1000 := by
  unfold tok; repeat' split
  all_goals omega

theorem full_p (a : Int) : throttle_Full.f a = some (1000 * tok a) := by
  unfold throttle_Full.f tok mn mx
  congr 1
  repeat' split
  all_goals omega

/-- What there is, from 0 to the most. -/
def cln (h m : Int) : Int := if h < 0 then 0 else if h > 1000 * m then 1000 * m else h

theorem cln_bounds (h m : Int) (hm : 1 ≤ m) : 0 ≤ cln h m ∧ cln h m ≤ 1000 * m := by
  unfold cln; repeat' split
  all_goals omega

theorem cln_same (h m : Int) (h0 : 0 ≤ h) (h1 : h ≤ 1000 * m) : cln h m = h := by
  unfold cln; repeat' split
  all_goals omega

theorem clean_p (h a : Int) : throttle_clean.f h a = some (cln h (tok a)) := by
  have hm := tok_bounds a
  unfold throttle_clean.f
  rw [full_p, Option.bind_some]
  congr 1
  generalize tok a = m at *
  unfold mn mx cln
  repeat' split
  all_goals omega

/-- Behind a failure, and behind a success. -/
def bd (h m : Int) : Int := if cln h m < 1000 then 0 else cln h m - 1000
def gd (h m : Int) : Int := if cln h m + 100 > 1000 * m then 1000 * m else cln h m + 100

theorem bad_p (h a : Int) : throttle_Bad.f h a = some (bd h (tok a)) := by
  have hm := tok_bounds a
  have hc := cln_bounds h (tok a) hm.1
  unfold throttle_Bad.f bd
  rw [clean_p, Option.bind_some]
  congr 1
  generalize cln h (tok a) = c at *
  generalize tok a = m at *
  have e : wrap64 (c - 1000) = c - 1000 := by unfold wrap64; omega
  rw [e]
  unfold mx
  repeat' split
  all_goals omega

theorem good_p (h a : Int) : throttle_Good.f h a = some (gd h (tok a)) := by
  have hm := tok_bounds a
  have hc := cln_bounds h (tok a) hm.1
  unfold throttle_Good.f gd
  rw [clean_p, full_p, Option.bind_some, Option.bind_some]
  congr 1
  generalize cln h (tok a) = c at *
  generalize tok a = m at *
  have e : wrap64 (c + 100) = c + 100 := by unfold wrap64; omega
  rw [e]
  unfold mn
  repeat' split
  all_goals omega

theorem may_p (h a : Int) : throttle_May.f h a = some (decide (2 * cln h (tok a) > 1000 * tok a)) := by
  have hm := tok_bounds a
  have hc := cln_bounds h (tok a) hm.1
  unfold throttle_May.f
  rw [clean_p, full_p, Option.bind_some, Option.bind_some]
  generalize cln h (tok a) = c at *
  generalize tok a = m at *
  have e : wrap64 (2 * c) = 2 * c := by unfold wrap64; omega
  rw [e]

/-- Behind one of both; behind many. -/
def one (m h : Int) (g : Bool) : Int := if g = true then gd h m else bd h m
def many (m : Int) (l : List Bool) (h : Int) : Int := l.foldl (one m) h

theorem plays_l (a : Int) (l : List Bool) (hn : (l.length : Int) ≤ 9223372036854775807) (d : Nat) : ∀ (k i : Nat) (h : Int), l.length - i = d → i ≤ l.length → d < k →
    throttle_Plays.l0 k a h l (l.length : Int) (i : Int) = some (many (tok a) (l.drop i) h) := by
  induction d with
  | zero =>
    intro k i h hd hi hk
    obtain ⟨k, rfl⟩ : ∃ m, k = m + 1 := ⟨k - 1, by omega⟩
    simp only [throttle_Plays.l0]
    rw [if_neg (by omega), List.drop_of_length_le (by omega)]; rfl
  | succ d ih =>
    intro k i h hd hi hk
    obtain ⟨k, rfl⟩ : ∃ m, k = m + 1 := ⟨k - 1, by omega⟩
    have hlt : i < l.length := by omega
    have e : wrap64 ((i : Int) + 1) = ((i + 1 : Nat) : Int) := by unfold wrap64; omega
    have r : rdOf false l (i : Int) = l[i] := by simp [rdOf, hlt]
    simp only [throttle_Plays.l0]
    rw [if_pos (by omega), if_pos (by omega), if_pos (by omega), r, good_p, bad_p, Option.bind_some, Option.bind_some, e, ih k (i + 1) _ (by omega) (by omega) (by omega), ih k (i + 1) _ (by omega) (by omega) (by omega), List.drop_eq_getElem_cons hlt]
    by_cases g : l[i] = true
    · rw [if_pos g]; simp [many, one, g]
    · rw [if_neg g]; simp [many, one, g]

theorem plays_p (a : Int) (l : List Bool) (hn : (l.length : Int) ≤ 9223372036854775807) (k : Nat) (hk : l.length < k) : throttle_Plays.f k a l = some (many (tok a) l (1000 * tok a)) := by
  unfold throttle_Plays.f
  rw [full_p, Option.bind_some]
  exact plays_l a l hn l.length k 0 _ (by omega) (by omega) hk

theorem many_bad (m : Int) (hm : 1 ≤ m) (n : Nat) : ∀ h, 0 ≤ h → h ≤ 1000 * m → many m (List.replicate n false) h = if h < 1000 * n then 0 else h - 1000 * n := by
  induction n with
  | zero => intro h h0 h1; simp [many]; omega
  | succ n ih =>
    intro h h0 h1
    have hb : bd h m = if h < 1000 then 0 else h - 1000 := by unfold bd; rw [cln_same h m h0 h1]
    have : many m (List.replicate (n + 1) false) h = many m (List.replicate n false) (bd h m) := by simp [many, one, List.replicate_succ]
    rw [this, hb]
    by_cases c : h < 1000
    · rw [if_pos c, ih 0 (by omega) (by omega)]
      split <;> split <;> omega
    · rw [if_neg c, ih _ (by omega) (by omega)]
      split <;> split <;> omega

theorem many_good (m : Int) (hm : 1 ≤ m) (n : Nat) : ∀ h, 0 ≤ h → h ≤ 1000 * m → many m (List.replicate n true) h = if h + 100 * n > 1000 * m then 1000 * m else h + 100 * n := by
  induction n with
  | zero => intro h h0 h1; simp [many]; omega
  | succ n ih =>
    intro h h0 h1
    have hb : gd h m = if h + 100 > 1000 * m then 1000 * m else h + 100 := by unfold gd; rw [cln_same h m h0 h1]
    have : many m (List.replicate (n + 1) true) h = many m (List.replicate n true) (gd h m) := by simp [many, one, List.replicate_succ]
    rw [this, hb]
    by_cases c : h + 100 > 1000 * m
    · rw [if_pos c, ih _ (by omega) (by omega)]
      split <;> split <;> omega
    · rw [if_neg c, ih _ (by omega) (by omega)]
      split <;> split <;> omega

theorem awake (k : Nat) (hk : 6 ≤ k) : hourglasslaw19_awake.f k = some true := by
  refine at_rounds hourglasslaw19_awake.mono hk ?_
  decide +kernel

theorem ThrottleFails : hourglasslaw19_ThrottleFails.Pure := by
  intro a n _ hn
  have hw : 0 ≤ n ∧ n ≤ 65535 := by simp [Lit.wf, IntKind.min, IntKind.max, IntKind.bits, IntKind.signed] at hn; omega
  have hm := tok_bounds a
  obtain ⟨j, hj, hj2⟩ : ∃ j : Nat, n % 1001 = (j : Int) ∧ j ≤ 1000 := ⟨(n % 1001).toNat, by omega, by omega⟩
  have e0 : wrap64 (Int.tmod n 1001) = (j : Int) := by rw [Int.tmod_eq_emod_of_nonneg hw.1, hj]; unfold wrap64; omega
  have e1 : wrap64 (Int.tdiv (1000 * tok a) 1000) = tok a := by rw [Int.tdiv_eq_ediv_of_nonneg (by omega)]; unfold wrap64; omega
  refine ⟨1010, ?_⟩
  unfold hourglasslaw19_ThrottleFails.f
  rw [full_p, Option.bind_some, e0, e1, if_pos (by omega), Int.toNat_natCast, if_pos (by omega), plays_p a _ (by simp; omega) 1010 (by simp; omega), Option.bind_some, many_bad _ hm.1 j _ (by omega) (by omega), may_p, Option.bind_some, awake 1010 (by decide), Option.bind_some]
  generalize tok a = m at *
  have e2 : wrap64 (m - (j : Int)) = m - j := by unfold wrap64; omega
  rw [e2]
  by_cases c : 1000 * m < 1000 * j
  · rw [if_pos c]
    have e3 : mx (m - j) 0 = 0 := by unfold mx; rw [if_pos (by omega)]
    rw [e3, if_pos (by decide +kernel)]
    have e4 : cln 0 m = 0 := cln_same 0 m (by omega) (by omega)
    have e5 : wrap64 (2 * (j : Int)) = 2 * j := by unfold wrap64; omega
    rw [e4, e5, if_pos]
    rw [show decide (2 * 0 > 1000 * m) = false by simp; omega, show decide (2 * (j : Int) < m) = false by simp; omega]; rfl
  · rw [if_neg c]
    have e3 : mx (m - j) 0 = m - j := by unfold mx; split <;> omega
    rw [e3, if_pos (by unfold wrap64; omega)]
    have e4 : cln (1000 * m - 1000 * j) m = 1000 * m - 1000 * j := cln_same _ m (by omega) (by omega)
    have e5 : wrap64 (2 * (j : Int)) = 2 * j := by unfold wrap64; omega
    rw [e4, e5, if_pos]
    rw [beq_iff_eq, decide_eq_decide]; omega

end Go.Proofs.Ythleomamdaijdaa.Pure

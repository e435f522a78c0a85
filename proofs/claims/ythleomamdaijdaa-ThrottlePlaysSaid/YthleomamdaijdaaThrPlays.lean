/- ThrottlePlays: the walk of the law over the contracts, and the plain law: whatever fails and goes well, there is never less than nothing, nor more than all. -/
import Derived.Test.YthleomamdaijdaaOThrottlePlays2
import Derived.Lib.Hide
import Derived.WalkKit
set_option linter.unusedVariables false
set_option linter.unusedSimpArgs false
namespace Go.Proofs.Ythleomamdaijdaa.ThrPlays
open Go.RowKit Go.Proofs.Ythleomamdaijdaa.OThrottlePlays Go.Proofs.YthleomamdaijdaaW.PrintWords Go.Proofs.YthleomamdaijdaaW.PrintLast Go.Proofs.YthleomamdaijdaaW.PrintMore

/-- How many tokens there are. -/
def tok (a : Int) : Int := if a < 1 then 1 else if a > 1000 then 1000 else a

theorem tok_bounds (a : Int) : 1 ≤ tok a ∧ tok a ≤ 1000 := by
  unfold tok; repeat' split
  all_goals omega

theorem full_p (a : Int) : throttle_Full.f a = some (1000 * tok a) := by
  unfold throttle_Full.f tok mn mx
  congr 1
  repeat' split
  all_goals omega

/-- What there is, from 0 to the most. -/
def cln (h m : Int) : Int := if h < 0 then 0 else if h > 1000 * m then 1000 * m else h

theorem cln_bounds (h m : Int) (hm : 1 ≤ m) : 0 ≤ cln h m ∧ cln h m ≤ 1000 * m := by
  unfold cln; repeat' split
  all_goals omega

theorem cln_same (h m : Int) (h0 : 0 ≤ h) (h1 : h ≤ 1000 * m) : cln h m = h := by
  unfold cln; repeat' split
  all_goals omega

theorem clean_p (h a : Int) : throttle_clean.f h a = some (cln h (tok a)) := by
  have hm := tok_bounds a
  unfold throttle_clean.f
  rw [full_p, Option.bind_some]
  congr 1
  generalize tok a = m at *
  unfold mn mx cln
  repeat' split
  all_goals omega

/-- Behind a failure, and behind a success. -/
def bd (h m : Int) : Int := if cln h m < 1000 then 0 else cln h m - 1000
def gd (h m : Int) : Int := if cln h m + 100 > 1000 * m then 1000 * m else cln h m + 100

theorem bad_p (h a : Int) : throttle_Bad.f h a = some (bd h (tok a)) := by
  have hm := tok_bounds a
  have hc := cln_bounds h (tok a) hm.1
  unfold throttle_Bad.f bd
  rw [clean_p, Option.bind_some]
  congr 1
  generalize cln h (tok a) = c at *
  generalize tok a = m at *
  have e : wrap64 (c - 1000) = c - 1000 := by unfold wrap64; omega
  rw [e]
  unfold mx
  repeat' split
  all_goals omega

theorem good_p (h a : Int) : throttle_Good.f h a = some (gd h (tok a)) := by
  have hm := tok_bounds a
  have hc := cln_bounds h (tok a) hm.1
  unfold throttle_Good.f gd
  rw [clean_p, full_p, Option.bind_some, Option.bind_some]
  congr 1
  generalize cln h (tok a) = c at *
  generalize tok a = m at *
  have e : wrap64 (c + 100) = c + 100 := by unfold wrap64; omega
  rw [e]
  unfold mn
  repeat' split
  all_goals omega

theorem may_p (h a : Int) : throttle_May.f h a = some (decide (2 * cln h (tok a) > 1000 * tok a)) := by
  have hm := tok_bounds a
  have hc := cln_bounds h (tok a) hm.1
  unfold throttle_May.f
  rw [clean_p, full_p, Option.bind_some, Option.bind_some]
  generalize cln h (tok a) = c at *
  generalize tok a = m at *
  have e : wrap64 (2 * c) = 2 * c := by unfold wrap64; omega
  rw [e]

/-- Behind one of both; behind many. -/
def one (m h : Int) (g : Bool) : Int := if g = true then gd h m else bd h m
def many (m : Int) (l : List Bool) (h : Int) : Int := l.foldl (one m) h

theorem plays_l (a : Int) (l : List Bool) (hn : (l.length : Int) ≤ 9223372036854775807) (d : Nat) : ∀ (k i : Nat) (h : Int), l.length - i = d → i ≤ l.length → d < k →
    throttle_Plays.l0 k a h l (l.length : Int) (i : Int) = some (many (tok a) (l.drop i) h) := by
  induction d with
  | zero =>
    intro k i h hd hi hk
    obtain ⟨k, rfl⟩ : ∃ m, k = m + 1 := ⟨k - 1, by omega⟩
    simp only [throttle_Plays.l0]
    rw [if_neg (by omega), List.drop_of_length_le (by omega)]; rfl
  | succ d ih =>
    intro k i h hd hi hk
    obtain ⟨k, rfl⟩ : ∃ m, k = m + 1 := ⟨k - 1, by omega⟩
    have hlt : i < l.length := by omega
    have e : wrap64 ((i : Int) + 1) = ((i + 1 : Nat) : Int) := by unfold wrap64; omega
    have r : rdOf false l (i : Int) = l[i] := by simp [rdOf, hlt]
    simp only [throttle_Plays.l0]
    rw [if_pos (by omega), if_pos (by omega), if_pos (by omega), r, good_p, bad_p, Option.bind_some, Option.bind_some, e, ih k (i + 1) _ (by omega) (by omega) (by omega), ih k (i + 1) _ (by omega) (by omega) (by omega), List.drop_eq_getElem_cons hlt]
    by_cases g : l[i] = true
    · rw [if_pos g]; simp [many, one, g]
    · rw [if_neg g]; simp [many, one, g]

theorem plays_p (a : Int) (l : List Bool) (hn : (l.length : Int) ≤ 9223372036854775807) (k : Nat) (hk : l.length < k) : throttle_Plays.f k a l = some (many (tok a) l (1000 * tok a)) := by
  unfold throttle_Plays.f
  rw [full_p, Option.bind_some]
  exact plays_l a l hn l.length k 0 _ (by omega) (by omega) hk

theorem many_bad (m : Int) (hm : 1 ≤ m) (n : Nat) : ∀ h, 0 ≤ h → h ≤ 1000 * m → many m (List.replicate n false) h = if h < 1000 * n then 0 else h - 1000 * n := by
  induction n with
  | zero => intro h h0 h1; simp [many]; omega
  | succ n ih =>
    intro h h0 h1
    have hb : bd h m = if h < 1000 then 0 else h - 1000 := by unfold bd; rw [cln_same h m h0 h1]
    have : many m (List.replicate (n + 1) false) h = many m (List.replicate n false) (bd h m) := by simp [many, one, List.replicate_succ]
    rw [this, hb]
    by_cases c : h < 1000
    · rw [if_pos c, ih 0 (by omega) (by omega)]
      split <;> split <;> omega
    · rw [if_neg c, ih _ (by omega) (by omega)]
      split <;> split <;> omega

theorem many_good (m : Int) (hm : 1 ≤ m) (n : Nat) : ∀ h, 0 ≤ h → h ≤ 1000 * m → many m (List.replicate n true) h = if h + 100 * n > 1000 * m then 1000 * m else h + 100 * n := by
  induction n with
  | zero => intro h h0 h1; simp [many]; omega
  | succ n ih =>
    intro h h0 h1
    have hb : gd h m = if h + 100 > 1000 * m then 1000 * m else h + 100 := by unfold gd; rw [cln_same h m h0 h1]
    have : many m (List.replicate (n + 1) true) h = many m (List.replicate n true) (gd h m) := by simp [many, one, List.replicate_succ]
    rw [this, hb]
    by_cases c : h + 100 > 1000 * m
    · rw [if_pos c, ih _ (by omega) (by omega)]
      split <;> split <;> omega
    · rw [if_neg c, ih _ (by omega) (by omega)]
      split <;> split <;> omega

theorem awake (k : Nat) (hk : 6 ≤ k) : hourglasslaw19_awake.f k = some true := by
  refine at_rounds hourglasslaw19_awake.mono hk ?_
  decide +kernel

theorem full_r (a : Int) : hourglassref19_Full.f a = some (1000 * tok a) := by
  unfold hourglassref19_Full.f tok
  by_cases h1 : a < 1
  · rw [if_pos h1, if_pos h1]; rfl
  · rw [if_neg h1, if_neg h1]
    by_cases h2 : a > 1000
    · rw [if_pos h2, if_pos h2]
    · rw [if_neg h2, if_neg h2]; congr 1; unfold wrap64; omega

theorem clean_r (h a : Int) : hourglassref19_clean.f h a = some (cln h (tok a)) := by
  unfold hourglassref19_clean.f cln
  rw [full_r, Option.bind_some, Option.bind_some]
  by_cases h1 : h < 0
  · rw [if_pos h1, if_pos h1]
  · rw [if_neg h1, if_neg h1]
    by_cases h2 : h > 1000 * tok a
    · rw [if_pos h2, if_pos h2]
    · rw [if_neg h2, if_neg h2]

theorem bad_r (h a : Int) : hourglassref19_Bad.f h a = some (bd h (tok a)) := by
  have hm := tok_bounds a
  have hc := cln_bounds h (tok a) hm.1
  unfold hourglassref19_Bad.f bd
  rw [clean_r, Option.bind_some]
  generalize cln h (tok a) = c at *
  have e : wrap64 (c - 1000) = c - 1000 := by unfold wrap64; omega
  rw [e]
  by_cases h1 : c < 1000
  · rw [if_pos h1, if_pos h1]
  · rw [if_neg h1, if_neg h1]

theorem good_r (h a : Int) : hourglassref19_Good.f h a = some (gd h (tok a)) := by
  have hm := tok_bounds a
  have hc := cln_bounds h (tok a) hm.1
  unfold hourglassref19_Good.f gd
  rw [clean_r, Option.bind_some, clean_r, Option.bind_some]
  congr 1
  generalize cln h (tok a) = c at *
  have e : wrap64 (c + 100) = c + 100 := by unfold wrap64; omega
  rw [e]
  unfold cln
  repeat' split
  all_goals omega


/-- May one try again? -/
def myB (h a : Int) : Bool := decide (2 * cln h (tok a) > 1000 * tok a)

theorem bad_c (h a : Int) (w : World) : Calls Try.prog 27 #[.int .i64 h, .int .i64 a] w fun e w' => e = .returned (.int .i64 (bd h (tok a))) ∧ Below w.heap.size w w' := throttle_Bad.calls h a _ w (bad_p h a)
theorem good_c (h a : Int) (w : World) : Calls Try.prog 29 #[.int .i64 h, .int .i64 a] w fun e w' => e = .returned (.int .i64 (gd h (tok a))) ∧ Below w.heap.size w w' := throttle_Good.calls h a _ w (good_p h a)
theorem full_c (a : Int) (w : World) : Calls Try.prog 25 #[.int .i64 a] w fun e w' => e = .returned (.int .i64 (1000 * tok a)) ∧ Below w.heap.size w w' := throttle_Full.calls a _ w (full_p a)
theorem may_c (h a : Int) (w : World) : Calls Try.prog 31 #[.int .i64 h, .int .i64 a] w fun e w' => e = .returned (.bool (myB h a)) ∧ Below w.heap.size w w' := throttle_May.calls h a _ w (may_p h a)
theorem fullr_c (a : Int) (w : World) : Calls Try.prog 26 #[.int .i64 a] w fun e w' => e = .returned (.int .i64 (1000 * tok a)) ∧ Below w.heap.size w w' := (hourglassref19_Full.calls a _ w (full_r a)).mono fun _ _ ⟨h, k⟩ => ⟨h, k.below⟩
theorem badr_c (h a : Int) (w : World) : Calls Try.prog 28 #[.int .i64 h, .int .i64 a] w fun e w' => e = .returned (.int .i64 (bd h (tok a))) ∧ Below w.heap.size w w' := (hourglassref19_Bad.calls h a _ w (bad_r h a)).mono fun _ _ ⟨h, k⟩ => ⟨h, k.below⟩
theorem goodr_c (h a : Int) (w : World) : Calls Try.prog 30 #[.int .i64 h, .int .i64 a] w fun e w' => e = .returned (.int .i64 (gd h (tok a))) ∧ Below w.heap.size w w' := (hourglassref19_Good.calls h a _ w (good_r h a)).mono fun _ _ ⟨h, k⟩ => ⟨h, k.below⟩
theorem awake_c (w : World) : Calls Try.prog 33 #[] w fun e w' => e = .returned (.bool true) ∧ Below w.heap.size w w' := hourglasslaw19_awake.calls 6 _ w (awake 6 (Nat.le_refl _))

/-- A failure never helps, a success never hurts; there is never less than nothing, nor more than all. -/
theorem steps_ok (h m : Int) (hm : 1 ≤ m) (h0 : 0 ≤ h) (h1 : h ≤ 1000 * m) : bd h m ≤ h ∧ h ≤ gd h m ∧ 0 ≤ bd h m ∧ gd h m ≤ 1000 * m ∧ 0 ≤ gd h m ∧ bd h m ≤ 1000 * m := by
  unfold bd gd
  rw [cln_same h m h0 h1]
  repeat' split
  all_goals omega

theorem may_mono (h h' a : Int) (h0 : 0 ≤ h) (hh : h ≤ h') (h1 : h' ≤ 1000 * tok a) (hy : myB h a = true) : myB h' a = true := by
  unfold myB at *
  rw [cln_same h _ h0 (by omega)] at hy
  rw [cln_same h' _ (by omega) h1]
  have := of_decide_eq_true hy
  exact decide_eq_true (by omega)

theorem many_snoc (m : Int) (l : List Bool) (b : Bool) (h : Int) : many m (l ++ [b]) h = one m (many m l h) b := by simp [many]

set_option maxHeartbeats 8000000 in
set_option maxRecDepth 100000 in
theorem plays_walk (a : Int) (A : Option Addr) (c : Nat) (l : List Bool) (w : World) (hr : Kd.C Kd.bool w A l.length l) (hc : l.length ≤ c) :
    Calls Try.prog 7 #[.int .i64 a, .slice A l.length c] w fun e w' => e = .returned (.bool true) ∧ Below w.heap.size w w' := by
  have HR := Lib.hid hr
  have HCL := Lib.hid hc
  have HB : Hid (Below w.heap.size w w) := Lib.hid (Below.refl _ _)
  clear hr hc
  by_cases hbig : 200 < (l.length : Int)
  · go_enter Try.func7, Try.ntmps7
    go_wp2_with (go_at_call 33; refine (awake_c _).mono ?_; rintro e w1 ⟨rfl, hb⟩; have HB1 := Lib.hid hb; clear hb)
    go_ret
    exact ⟨rfl, HB1.out⟩
  · have hm := tok_bounds a
    go_enter Try.func7, Try.ntmps7
    go_wp2_with (go_at_call 26; refine (fullr_c _ _).mono ?_; rintro e w1 ⟨rfl, hb⟩; have n0_ := Lib.hid (HB.out.trans (hb.mono HB.out.size)); clear HB hb; have HB := n0_; clear n0_)
    go_loopw [5, 6] (fun vh vi wr => ∃ (i : Nat) (h : Int), vh = .int .i64 h ∧ vi = .int .i64 i ∧ i ≤ l.length ∧ 0 ≤ h ∧ h ≤ 1000 * tok a ∧ Hid (h = many (tok a) (l.take i) (1000 * tok a)) ∧ Hid (Below w.heap.size w wr)) (fun _ vi _ => l.length - (intOf vi).toNat)
    case atStart => exact ⟨0, _, rfl, rfl, by omega, by omega, by omega, Lib.hid rfl, HB⟩
    case round =>
      obtain ⟨i, h, rfl, rfl, hi, h0, h1, HM, HB⟩ := hrel
      by_cases hlt : (i : Int) < (l.length : Int)
      · obtain ⟨ad, hA, hcell⟩ := Kd.at_bool HR.out (i : Int) (by omega) hlt
        cases hA
        rw [Int.toNat_natCast] at hcell
        have HC := Lib.hid hcell
        clear hcell
        obtain ⟨s1, s2, s3, s4, s5, s6⟩ := steps_ok h (tok a) hm.1 h0 h1
        have hp : (myB (bd h (tok a)) a = false ∧ myB h a = false ∧ myB (gd h (tok a)) a = false) ∨ (myB (bd h (tok a)) a = false ∧ myB h a = false ∧ myB (gd h (tok a)) a = true) ∨ (myB (bd h (tok a)) a = false ∧ myB h a = true ∧ myB (gd h (tok a)) a = true) ∨ (myB (bd h (tok a)) a = true ∧ myB h a = true ∧ myB (gd h (tok a)) a = true) := by
          have q1 := may_mono (bd h (tok a)) h a s3 s1 h1
          have q2 := may_mono h (gd h (tok a)) a h0 s2 s4
          cases e1 : myB (bd h (tok a)) a <;> cases e2 : myB h a <;> cases e3 : myB (gd h (tok a)) a <;> simp_all
        obtain ⟨b, hb⟩ : ∃ b, b = rdOf false l (i : Int) := ⟨_, rfl⟩
        have HBb := Lib.hid hb
        rw [← hb] at HC
        clear hb
        have HN : Hid (many (tok a) (l.take (i + 1)) (1000 * tok a) = one (tok a) h b) := Lib.hid (by
          have e : l.take (i + 1) = l.take i ++ [l[i]] := by rw [List.take_succ_eq_append_getElem (by omega)]
          have e2 : b = l[i] := by rw [HBb.out]; simp [rdOf, show i < l.length by omega]
          rw [e, many_snoc, ← HM.out, e2])
        clear HM
        rcases hp with ⟨p1, p2, p3⟩ | ⟨p1, p2, p3⟩ | ⟨p1, p2, p3⟩ | ⟨p1, p2, p3⟩
        all_goals
          cases b with
          | false =>
            go_wp2_with (first | (go_at_call 27; refine (bad_c _ _ _).mono ?_; rintro e w1 ⟨rfl, hb⟩; have n0_ := Lib.hid (HB.out.trans (hb.mono HB.out.size)); clear HB hb; have HB := n0_; clear n0_; have hc := (HB.out.cell (World.block_lt_of_cell? w _ HC.out)).trans HC.out) | (go_at_call 29; refine (good_c _ _ _).mono ?_; rintro e w1 ⟨rfl, hb⟩; have n0_ := Lib.hid (HB.out.trans (hb.mono HB.out.size)); clear HB hb; have HB := n0_; clear n0_; have hc := (HB.out.cell (World.block_lt_of_cell? w _ HC.out)).trans HC.out) | (go_at_call 25; refine (full_c _ _).mono ?_; rintro e w1 ⟨rfl, hb⟩; have n0_ := Lib.hid (HB.out.trans (hb.mono HB.out.size)); clear HB hb; have HB := n0_; clear n0_; have hc := (HB.out.cell (World.block_lt_of_cell? w _ HC.out)).trans HC.out) | (go_at_call 31; refine (may_c _ _ _).mono ?_; rintro e w1 ⟨rfl, hb⟩; have n0_ := Lib.hid (HB.out.trans (hb.mono HB.out.size)); clear HB hb; have HB := n0_; clear n0_; have hc := (HB.out.cell (World.block_lt_of_cell? w _ HC.out)).trans HC.out) | (go_at_call 28; refine (badr_c _ _ _).mono ?_; rintro e w1 ⟨rfl, hb⟩; have n0_ := Lib.hid (HB.out.trans (hb.mono HB.out.size)); clear HB hb; have HB := n0_; clear n0_))
            go_roundw
            case rel => exact ⟨i + 1, bd h (tok a), rfl, by go_num, by omega, s3, s6, Lib.hid (by rw [HN.out]; rfl), HB⟩
            case measure => simp [intOf]; omega
          | true =>
            go_wp2_with (first | (go_at_call 27; refine (bad_c _ _ _).mono ?_; rintro e w1 ⟨rfl, hb⟩; have n0_ := Lib.hid (HB.out.trans (hb.mono HB.out.size)); clear HB hb; have HB := n0_; clear n0_; have hc := (HB.out.cell (World.block_lt_of_cell? w _ HC.out)).trans HC.out) | (go_at_call 29; refine (good_c _ _ _).mono ?_; rintro e w1 ⟨rfl, hb⟩; have n0_ := Lib.hid (HB.out.trans (hb.mono HB.out.size)); clear HB hb; have HB := n0_; clear n0_; have hc := (HB.out.cell (World.block_lt_of_cell? w _ HC.out)).trans HC.out) | (go_at_call 25; refine (full_c _ _).mono ?_; rintro e w1 ⟨rfl, hb⟩; have n0_ := Lib.hid (HB.out.trans (hb.mono HB.out.size)); clear HB hb; have HB := n0_; clear n0_; have hc := (HB.out.cell (World.block_lt_of_cell? w _ HC.out)).trans HC.out) | (go_at_call 31; refine (may_c _ _ _).mono ?_; rintro e w1 ⟨rfl, hb⟩; have n0_ := Lib.hid (HB.out.trans (hb.mono HB.out.size)); clear HB hb; have HB := n0_; clear n0_; have hc := (HB.out.cell (World.block_lt_of_cell? w _ HC.out)).trans HC.out) | (go_at_call 30; refine (goodr_c _ _ _).mono ?_; rintro e w1 ⟨rfl, hb⟩; have n0_ := Lib.hid (HB.out.trans (hb.mono HB.out.size)); clear HB hb; have HB := n0_; clear n0_))
            go_roundw
            case rel => exact ⟨i + 1, gd h (tok a), rfl, by go_num, by omega, s5, s4, Lib.hid (by rw [HN.out]; rfl), HB⟩
            case measure => simp [intOf]; omega
      · have HE : Hid (throttle_Plays.f (l.length + 1) a l = some h) := Lib.hid (by
          rw [plays_p a l (by omega) _ (by omega), HM.out, List.take_of_length_le (by omega)])
        clear HM
        go_wp2_with (first | (go_at_call 34; refine (throttle_Plays.calls (l.length + 1) a _ _ l h _ (Kd.C_below HR.out HB.out) HCL.out HE.out).mono ?_; rintro e w1 ⟨rfl, hb⟩; have n0_ := Lib.hid (HB.out.trans (hb.mono HB.out.size)); clear HB hb; have HB := n0_; clear n0_) | (go_at_call 33; refine (awake_c _).mono ?_; rintro e w1 ⟨rfl, hb⟩; have n0_ := Lib.hid (HB.out.trans (hb.mono HB.out.size)); clear HB hb; have HB := n0_; clear n0_))
        go_ret
        exact ⟨rfl, HB.out⟩

end Go.Proofs.Ythleomamdaijdaa.ThrPlays

/- Ring: points in order, in plain Lean. -/
import Derived.Test.YtbjepnneklnenaaRgM
import Derived.Test.YtbjepnneklnenaaRgS
set_option linter.unusedVariables false
set_option linter.unusedSimpArgs false
namespace Go.Proofs.Ytbjepnneklnenaa.Rg
open Go.Sort

/-- A point: where, whose, which. -/
structure Pt where
  a : Int
  m : Int
  n : Int
deriving DecidableEq

theorem cI_lt (x y : Int) : Lib.compareInt x y < 0 ↔ x < y := by unfold Lib.compareInt; split <;> (try split) <;> omega
theorem cI_eq (x y : Int) : Lib.compareInt x y = 0 ↔ x = y := by unfold Lib.compareInt; split <;> (try split) <;> omega
theorem cI_cases (x y : Int) : (x < y ∧ Lib.compareInt x y = -1) ∨ (y < x ∧ Lib.compareInt x y = 1) ∨ (x = y ∧ Lib.compareInt x y = 0) := by unfold Lib.compareInt; split <;> (try split) <;> omega

/-- How points compare. -/
def cfP (x y : Pt) : Int := if Lib.compareInt x.a y.a = 0 then (if Lib.compareInt x.m y.m = 0 then Lib.compareInt x.n y.n else Lib.compareInt x.m y.m) else Lib.compareInt x.a y.a

def LtP (x y : Pt) : Prop := x.a < y.a ∨ (x.a = y.a ∧ (x.m < y.m ∨ (x.m = y.m ∧ x.n < y.n)))
instance (x y : Pt) : Decidable (LtP x y) := by unfold LtP; infer_instance

theorem pt_eq (x y : Pt) : x = y ↔ x.a = y.a ∧ x.m = y.m ∧ x.n = y.n := by
  constructor
  · rintro rfl; simp
  · rintro ⟨h1, h2, h3⟩; cases x; cases y; simp_all

theorem cfP_cases (x y : Pt) : (LtP x y ∧ cfP x y = -1) ∨ (LtP y x ∧ cfP x y = 1) ∨ (x = y ∧ cfP x y = 0) := by
  rw [pt_eq]
  unfold cfP LtP
  rcases cI_cases x.a y.a with ⟨h, e⟩ | ⟨h, e⟩ | ⟨h, e⟩
  · rw [e]; simp; omega
  · rw [e]; simp; omega
  · rw [e]
    rcases cI_cases x.m y.m with ⟨h1, e1⟩ | ⟨h1, e1⟩ | ⟨h1, e1⟩
    · rw [e1]; simp; omega
    · rw [e1]; simp; omega
    · rw [e1]
      rcases cI_cases x.n y.n with ⟨h4, e4⟩ | ⟨h4, e4⟩ | ⟨h4, e4⟩ <;> rw [e4] <;> simp <;> omega

theorem LtP.irrefl (x : Pt) : ¬ LtP x x := by unfold LtP; omega
theorem LtP.trans {x y z : Pt} (h : LtP x y) (k : LtP y z) : LtP x z := by unfold LtP at *; omega
theorem LtP.tri (x y : Pt) : LtP x y ∨ x = y ∨ LtP y x := by rw [pt_eq]; unfold LtP; omega

def ltP (x y : Pt) : Bool := decide (cfP x y < 0)
theorem ltP_eq (x y : Pt) : ltP x y = decide (LtP x y) := by
  unfold ltP
  rcases cfP_cases x y with ⟨h, e⟩ | ⟨h, e⟩ | ⟨h, e⟩
  · rw [e]; simp [h]
  · rw [e]
    have : ¬ LtP x y := fun k => LtP.irrefl _ (k.trans h)
    simp [this]
  · subst h
    rw [e]
    simp [LtP.irrefl]

theorem swoP : SWO ltP where
  irrefl x := by rw [ltP_eq]; simp [LtP.irrefl]
  trans x y z h1 h2 := by
    rw [ltP_eq] at *
    exact decide_eq_true (LtP.trans (of_decide_eq_true h1) (of_decide_eq_true h2))
  ntrans x y z h1 h2 := by
    rw [ltP_eq] at *
    refine decide_eq_false (fun h => ?_)
    have h1 := of_decide_eq_false h1
    have h2 := of_decide_eq_false h2
    rcases LtP.tri x y with h3 | h3 | h3
    · exact h1 h3
    · subst h3; exact h2 h
    · exact h2 (h3.trans h)

def leP (x y : Pt) : Bool := decide (¬ LtP y x)
theorem leP_trans (a b c : Pt) (h1 : leP a b = true) (h2 : leP b c = true) : leP a c = true := by
  have h1 := of_decide_eq_true h1
  have h2 := of_decide_eq_true h2
  refine decide_eq_true (fun h => ?_)
  rcases LtP.tri a b with h3 | h3 | h3
  · exact h2 (h.trans h3)
  · subst h3; exact h2 h
  · exact h1 h3
theorem leP_total (a b : Pt) : (leP a b || leP b a) = true := by
  rw [Bool.or_eq_true]
  by_cases h : LtP b a
  · right
    exact decide_eq_true (fun k => LtP.irrefl _ (h.trans k))
  · left
    exact decide_eq_true h
theorem leP_anti {a b : Pt} (h1 : leP a b = true) (h2 : leP b a = true) : a = b := by
  have h1 := of_decide_eq_true h1
  have h2 := of_decide_eq_true h2
  rcases LtP.tri a b with h3 | h3 | h3
  · exact absurd h3 h2
  · exact h3
  · exact absurd h3 h1

/-- Points, rising. -/
def sortP (K : List Pt) : List Pt := K.mergeSort leP
theorem sortP_perm (K : List Pt) : (sortP K).Perm K := List.mergeSort_perm _ _
theorem sortP_pw (K : List Pt) : (sortP K).Pairwise (fun a b => leP a b = true) := List.pairwise_mergeSort leP_trans leP_total K
theorem sortP_of {K K' : List Pt} (hp : K'.Perm K) (hs : K'.Pairwise (fun a b => leP a b = true)) : K' = sortP K :=
  List.Perm.eq_of_pairwise (le := fun a b => leP a b = true) (fun a b _ _ h1 h2 => leP_anti h1 h2) hs (sortP_pw K) (hp.trans (sortP_perm K).symm)
theorem sortP_eq {K K' : List Pt} (hp : K'.Perm K) : sortP K' = sortP K := sortP_of ((sortP_perm _).trans hp) (sortP_pw _)

instance : Inhabited Pt := ⟨⟨0, 0, 0⟩⟩

theorem sorted_points {out : List Pt} {d' : Array Pt} (hp : PermIn 0 out.toArray.size out.toArray d') (hs : SortedIn ltP 0 out.toArray.size d') : d'.toList = sortP out := by
  obtain ⟨hsz, _, hperm⟩ := hp
  have e1 : d'.extract 0 out.toArray.size = d' := by rw [← hsz]; exact Array.extract_size
  rw [e1, Array.extract_size] at hperm
  refine sortP_of hperm ?_
  rw [List.pairwise_iff_getElem]
  intro i j hi hj hij
  have hi' : i < d'.size := by simpa using hi
  have hj' : j < d'.size := by simpa using hj
  have := hs i j (Nat.zero_le _) hij (by omega)
  rw [getElem!_pos d' j hj', getElem!_pos d' i hi', ltP_eq] at this
  exact decide_eq_true (by simpa using of_decide_eq_false this)
end Go.Proofs.Ytbjepnneklnenaa.Rg

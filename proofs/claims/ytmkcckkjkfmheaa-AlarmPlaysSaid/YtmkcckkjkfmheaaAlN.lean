/- Alarm: names in order, in plain Lean. -/
import Derived.Test.YtmkcckkjkfmheaaAa
import Derived.Test.YtmkcckkjkfmheaaWa
set_option linter.unusedVariables false
set_option linter.unusedSimpArgs false
namespace Go.Proofs.Ytmkcckkjkfmheaa.Al
open Go.Sort

theorem cI_lt (x y : Int) : Lib.compareInt x y < 0 ↔ x < y := by unfold Lib.compareInt; split <;> (try split) <;> omega
theorem cI_eq (x y : Int) : Lib.compareInt x y = 0 ↔ x = y := by unfold Lib.compareInt; split <;> (try split) <;> omega
theorem cI_cases (x y : Int) : (x < y ∧ Lib.compareInt x y = -1) ∨ (y < x ∧ Lib.compareInt x y = 1) ∨ (x = y ∧ Lib.compareInt x y = 0) := by unfold Lib.compareInt; split <;> (try split) <;> omega

/-- How identities, keys, and names compare. -/
def cfD (x y : K5) : Int := if Lib.compareInt x.a y.a = 0 then (if Lib.compareInt x.b y.b = 0 then Lib.compareInt x.c y.c else Lib.compareInt x.b y.b) else Lib.compareInt x.a y.a
def cfY (x y : K5) : Int := if cfD x y = 0 then Lib.compareInt x.d y.d else cfD x y
def cfN (x y : K5) : Int := if cfY x y = 0 then Lib.compareInt x.e y.e else cfY x y

def LtN (x y : K5) : Prop := x.a < y.a ∨ (x.a = y.a ∧ (x.b < y.b ∨ (x.b = y.b ∧ (x.c < y.c ∨ (x.c = y.c ∧ (x.d < y.d ∨ (x.d = y.d ∧ x.e < y.e)))))))
instance (x y : K5) : Decidable (LtN x y) := by unfold LtN; infer_instance

theorem k5_eq (x y : K5) : x = y ↔ x.a = y.a ∧ x.b = y.b ∧ x.c = y.c ∧ x.d = y.d ∧ x.e = y.e := by
  constructor
  · rintro rfl; simp
  · rintro ⟨h1, h2, h3, h4, h5⟩; cases x; cases y; simp_all

theorem cfN_cases (x y : K5) : (LtN x y ∧ cfN x y = -1) ∨ (LtN y x ∧ cfN x y = 1) ∨ (x = y ∧ cfN x y = 0) := by
  rw [k5_eq]
  unfold cfN cfY cfD LtN
  rcases cI_cases x.a y.a with ⟨h, e⟩ | ⟨h, e⟩ | ⟨h, e⟩
  · rw [e]; simp; omega
  · rw [e]; simp; omega
  · rw [e]
    rcases cI_cases x.b y.b with ⟨h1, e1⟩ | ⟨h1, e1⟩ | ⟨h1, e1⟩
    · rw [e1]; simp; omega
    · rw [e1]; simp; omega
    · rw [e1]
      rcases cI_cases x.c y.c with ⟨h2, e2⟩ | ⟨h2, e2⟩ | ⟨h2, e2⟩
      · rw [e2]; simp; omega
      · rw [e2]; simp; omega
      · rw [e2]
        rcases cI_cases x.d y.d with ⟨h3, e3⟩ | ⟨h3, e3⟩ | ⟨h3, e3⟩
        · rw [e3]; simp; omega
        · rw [e3]; simp; omega
        · rw [e3]
          rcases cI_cases x.e y.e with ⟨h4, e4⟩ | ⟨h4, e4⟩ | ⟨h4, e4⟩ <;> rw [e4] <;> simp <;> omega

theorem LtN.irrefl (x : K5) : ¬ LtN x x := by unfold LtN; omega
theorem LtN.trans {x y z : K5} (h : LtN x y) (k : LtN y z) : LtN x z := by unfold LtN at *; omega
theorem LtN.tri (x y : K5) : LtN x y ∨ x = y ∨ LtN y x := by rw [k5_eq]; unfold LtN; omega

def ltN (x y : K5) : Bool := decide (cfN x y < 0)
theorem ltN_eq (x y : K5) : ltN x y = decide (LtN x y) := by
  unfold ltN
  rcases cfN_cases x y with ⟨h, e⟩ | ⟨h, e⟩ | ⟨h, e⟩
  · rw [e]; simp [h]
  · rw [e]
    have : ¬ LtN x y := fun k => LtN.irrefl _ (k.trans h)
    simp [this]
  · subst h
    rw [e]
    simp [LtN.irrefl]

theorem swoN : SWO ltN where
  irrefl x := by rw [ltN_eq]; simp [LtN.irrefl]
  trans x y z h1 h2 := by
    rw [ltN_eq] at *
    exact decide_eq_true (LtN.trans (of_decide_eq_true h1) (of_decide_eq_true h2))
  ntrans x y z h1 h2 := by
    rw [ltN_eq] at *
    refine decide_eq_false (fun h => ?_)
    have h1 := of_decide_eq_false h1
    have h2 := of_decide_eq_false h2
    rcases LtN.tri x y with h3 | h3 | h3
    · exact h1 h3
    · subst h3; exact h2 h
    · exact h2 (h3.trans h)

def leN (x y : K5) : Bool := decide (¬ LtN y x)
theorem leN_trans (a b c : K5) (h1 : leN a b = true) (h2 : leN b c = true) : leN a c = true := by
  have h1 := of_decide_eq_true h1
  have h2 := of_decide_eq_true h2
  refine decide_eq_true (fun h => ?_)
  rcases LtN.tri a b with h3 | h3 | h3
  · exact h2 (h.trans h3)
  · subst h3; exact h2 h
  · exact h1 h3
theorem leN_total (a b : K5) : (leN a b || leN b a) = true := by
  rw [Bool.or_eq_true]
  by_cases h : LtN b a
  · right
    exact decide_eq_true (fun k => LtN.irrefl _ (h.trans k))
  · left
    exact decide_eq_true h
theorem leN_anti {a b : K5} (h1 : leN a b = true) (h2 : leN b a = true) : a = b := by
  have h1 := of_decide_eq_true h1
  have h2 := of_decide_eq_true h2
  rcases LtN.tri a b with h3 | h3 | h3
  · exact absurd h3 h2
  · exact h3
  · exact absurd h3 h1

/-- Names, rising. -/
def sortN (K : List K5) : List K5 := K.mergeSort leN
theorem sortN_perm (K : List K5) : (sortN K).Perm K := List.mergeSort_perm _ _
theorem sortN_pw (K : List K5) : (sortN K).Pairwise (fun a b => leN a b = true) := List.pairwise_mergeSort leN_trans leN_total K
theorem sortN_of {K K' : List K5} (hp : K'.Perm K) (hs : K'.Pairwise (fun a b => leN a b = true)) : K' = sortN K :=
  List.Perm.eq_of_pairwise (le := fun a b => leN a b = true) (fun a b _ _ h1 h2 => leN_anti h1 h2) hs (sortN_pw K) (hp.trans (sortN_perm K).symm)
theorem sortN_eq {K K' : List K5} (hp : K'.Perm K) : sortN K' = sortN K := sortN_of ((sortN_perm _).trans hp) (sortN_pw _)

instance : Inhabited K5 := ⟨⟨0, 0, 0, 0, 0⟩⟩

theorem sorted_names {out : List K5} {d' : Array K5} (hp : PermIn 0 out.toArray.size out.toArray d') (hs : SortedIn ltN 0 out.toArray.size d') : d'.toList = sortN out := by
  obtain ⟨hsz, _, hperm⟩ := hp
  have e1 : d'.extract 0 out.toArray.size = d' := by rw [← hsz]; exact Array.extract_size
  rw [e1, Array.extract_size] at hperm
  refine sortN_of hperm ?_
  rw [List.pairwise_iff_getElem]
  intro i j hi hj hij
  have hi' : i < d'.size := by simpa using hi
  have hj' : j < d'.size := by simpa using hj
  have := hs i j (Nat.zero_le _) hij (by omega)
  rw [getElem!_pos d' j hj', getElem!_pos d' i hi', ltN_eq] at this
  exact decide_eq_true (by simpa using of_decide_eq_false this)
end Go.Proofs.Ytmkcckkjkfmheaa.Al

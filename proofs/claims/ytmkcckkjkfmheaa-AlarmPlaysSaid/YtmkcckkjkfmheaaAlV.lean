/- Alarm: what is due, as lists. -/
import Derived.Test.YtmkcckkjkfmheaaAlS
import Derived.Test.YtmkcckkjkfmheaaAlT
set_option linter.unusedVariables false
set_option linter.unusedSimpArgs false
set_option maxRecDepth 100000
namespace Go.Proofs.Ytmkcckkjkfmheaa.Al
open Go.RowKit Go.Maps Go.Proofs.Ytmkcckkjkfmheaa.Base Go.Proofs.Ytmkcckkjkfmheaa.Rws Go.Proofs.Ytmkcckkjkfmheaa.Wh Go.Proofs.YtmkcckkjkfmheaaW.PrintWords Go.Proofs.YtmkcckkjkfmheaaW.PrintMore

theorem perm_lift {α β : Type} (f : α → β) {M N : List β} (h : M.Perm N) : ∀ B : List α, N = B.map f → ∃ B' : List α, B'.Perm B ∧ B'.map f = M := by
  induction h with
  | nil =>
    intro B hB
    have : B = [] := by cases B with
      | nil => rfl
      | cons x B => simp at hB
    subst this
    exact ⟨[], .refl _, rfl⟩
  | cons x _ ih =>
    intro B hB
    cases B with
    | nil => simp at hB
    | cons b B =>
      rw [List.map_cons] at hB
      injection hB with h1 h2
      obtain ⟨B', hp, hm⟩ := ih B h2
      exact ⟨b :: B', hp.cons _, by rw [List.map_cons, hm, h1]⟩
  | swap x y l =>
    intro B hB
    cases B with
    | nil => simp at hB
    | cons b B =>
      cases B with
      | nil => simp at hB
      | cons b2 B =>
        rw [List.map_cons, List.map_cons] at hB
        injection hB with h1 h2
        injection h2 with h2 h3
        exact ⟨b2 :: b :: B, List.Perm.swap _ _ _, by rw [List.map_cons, List.map_cons, h3, h1, h2]⟩
  | trans _ _ ih1 ih2 =>
    intro B hB
    obtain ⟨B1, p1, m1⟩ := ih2 B hB
    obtain ⟨B2, p2, m2⟩ := ih1 B1 m1.symm
    exact ⟨B2, p2.trans p1, m2⟩

/-- What is due at a time of the wheel, and what is not. -/
def dueA (G e : Int) (A : List En) : List En := A.filter (fun x => decide (sl G x.t ≤ e))
def leftA (G e : Int) (A : List En) : List En := A.filter (fun x => decide (e < sl G x.t))

theorem due_list (G e : Int) (A : List En) : ∃ E : List En, E.Perm (dueA G e A) ∧ E.map En.h = outK e (A.map (En.sh G)) := by
  have h1 : (sortK ((A.map (En.sh G)).filter (fun p => decide (p.1 ≤ e)))).Perm ((dueA G e A).map (En.sh G)) := by
    refine (sortK_perm _).trans ?_
    rw [List.filter_map]
    exact .refl _
  obtain ⟨E, hp, hm⟩ := perm_lift (En.sh G) h1 _ rfl
  refine ⟨E, hp, ?_⟩
  unfold outK
  rw [← hm, List.map_map]
  rfl

theorem rest_list (G e : Int) (A : List En) : restK e (A.map (En.sh G)) = (leftA G e A).map (En.sh G) := by
  unfold restK leftA
  rw [List.filter_map]
  rfl

theorem due_step {A : List En} {R : List Int} {j : Nat} {E : En} (hR : R.Nodup) (hj : R[j]? = some E.h) (hE : E ∈ A) :
    (A.filter (fun x => decide (x.h ∉ R.take j))).filter (fun x => decide (x.h ≠ E.h)) = A.filter (fun x => decide (x.h ∉ R.take (j + 1))) ∧ E ∈ A.filter (fun x => decide (x.h ∉ R.take j)) := by
  have htk : R.take (j + 1) = R.take j ++ [E.h] := by rw [List.take_add_one, hj]; rfl
  constructor
  · rw [List.filter_filter]
    refine List.filter_congr fun x hx => ?_
    rw [htk]
    simp [and_comm]
  · rw [List.mem_filter]
    refine ⟨hE, decide_eq_true ?_⟩
    intro hm
    obtain ⟨i, hi, he⟩ := List.getElem_of_mem hm
    rw [List.length_take] at hi
    rw [List.getElem_take] at he
    obtain ⟨hj', hje⟩ := List.getElem?_eq_some_iff.1 hj
    have := (List.nodup_iff_pairwise_ne.1 hR)
    rw [List.pairwise_iff_getElem] at this
    exact this i j (by omega) hj' (by omega) (by rw [he, hje])

/-- All that was due is gone. -/
theorem due_gone {G e : Int} {A E : List En} (hh : (A.map En.h).Nodup) (hp : E.Perm (dueA G e A)) : A.filter (fun x => decide (x.h ∉ (E.map En.h))) = leftA G e A := by
  refine List.filter_congr fun x hx => ?_
  have : x.h ∈ E.map En.h ↔ sl G x.t ≤ e := by
    constructor
    · intro h
      obtain ⟨y, hy, hyh⟩ := List.mem_map.1 h
      have hy2 := List.mem_filter.1 (hp.mem_iff.1 hy)
      rw [← one_h hh hy2.1 hx hyh]
      exact of_decide_eq_true hy2.2
    · intro h
      exact List.mem_map.2 ⟨x, hp.mem_iff.2 (List.mem_filter.2 ⟨hx, decide_eq_true h⟩), rfl⟩
  simp only [this, decide_eq_decide]
  omega

theorem due_nodup {G e : Int} {A E : List En} (hh : (A.map En.h).Nodup) (hp : E.Perm (dueA G e A)) : (E.map En.h).Nodup := by
  rw [(hp.map En.h).nodup_iff]
  exact hh.sublist ((List.filter_sublist).map _)
end Go.Proofs.Ytmkcckkjkfmheaa.Al

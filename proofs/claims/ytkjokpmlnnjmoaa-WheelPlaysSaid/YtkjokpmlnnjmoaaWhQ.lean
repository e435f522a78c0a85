/- Wheel: what it holds, as a list of times and names; sorting; in plain Lean. -/
import Derived.Test.YtkjokpmlnnjmoaaWhN
import Derived.Sort.LotA
import Derived.Lib.Small
set_option linter.unusedVariables false
set_option linter.unusedSimpArgs false
namespace Go.Proofs.Ytkjokpmlnnjmoaa.Wh
open Go.Sort

def key (t : Tm) : Int × Int := (t.at_, t.h)
def leK (a b : Int × Int) : Bool := decide (a.1 < b.1 ∨ (a.1 = b.1 ∧ a.2 ≤ b.2))
def sortK (K : List (Int × Int)) : List (Int × Int) := K.mergeSort leK

theorem leK_trans (a b c : Int × Int) (h1 : leK a b = true) (h2 : leK b c = true) : leK a c = true := by
  simp only [leK, decide_eq_true_eq] at *
  omega
theorem leK_total (a b : Int × Int) : (leK a b || leK b a) = true := by
  simp only [leK, Bool.or_eq_true, decide_eq_true_eq]
  omega
theorem leK_anti {a b : Int × Int} (h1 : leK a b = true) (h2 : leK b a = true) : a = b := by
  simp only [leK, decide_eq_true_eq] at *
  exact Prod.ext (by omega) (by omega)

theorem sortK_perm (K : List (Int × Int)) : (sortK K).Perm K := List.mergeSort_perm _ _
theorem sortK_pw (K : List (Int × Int)) : (sortK K).Pairwise (fun a b => leK a b = true) := List.pairwise_mergeSort leK_trans leK_total K

/-- One sorted list alone. -/
theorem sortK_of {K K' : List (Int × Int)} (hp : K'.Perm K) (hs : K'.Pairwise (fun a b => leK a b = true)) : K' = sortK K :=
  List.Perm.eq_of_pairwise (le := fun a b => leK a b = true) (fun a b _ _ h1 h2 => leK_anti h1 h2) hs (sortK_pw K) (hp.trans (sortK_perm K).symm)
theorem sortK_eq {K K' : List (Int × Int)} (hp : K'.Perm K) : sortK K' = sortK K := sortK_of ((sortK_perm _).trans hp) (sortK_pw _)

instance : Inhabited Tm := ⟨⟨0, 0, 0, 0⟩⟩

/-- What the closure tells. -/
def cfT (a b : Tm) : Int := if Lib.compareInt a.at_ b.at_ = 0 then Lib.compareInt a.h b.h else Lib.compareInt a.at_ b.at_
def ltT (x y : Tm) : Bool := decide (cfT x y < 0)
theorem ltT_eq (x y : Tm) : ltT x y = decide (x.at_ < y.at_ ∨ (x.at_ = y.at_ ∧ x.h < y.h)) := by
  unfold ltT cfT Lib.compareInt
  congr 1
  simp only [eq_iff_iff]
  split <;> split <;> (try split) <;> (try split) <;> omega
theorem swoT : SWO ltT where
  irrefl x := by rw [ltT_eq]; simp
  trans x y z h1 h2 := by rw [ltT_eq] at *; simp only [decide_eq_true_eq] at *; omega
  ntrans x y z h1 h2 := by rw [ltT_eq] at *; simp only [decide_eq_false_iff_not] at *; omega

/-- What is sorted by the closure reads as the sorted list. -/
theorem sorted_keys {out : List Tm} {d' : Array Tm} (hp : PermIn 0 out.toArray.size out.toArray d') (hs : SortedIn ltT 0 out.toArray.size d') : d'.toList.map key = sortK (out.map key) ∧ d'.toList.Perm out := by
  obtain ⟨hsz, _, hperm⟩ := hp
  have e1 : d'.extract 0 out.toArray.size = d' := by rw [← hsz]; exact Array.extract_size
  rw [e1, Array.extract_size] at hperm
  refine ⟨sortK_of (hperm.map key) ?_, hperm⟩
  rw [List.pairwise_map, List.pairwise_iff_getElem]
  intro i j hi hj hij
  have hi' : i < d'.size := by simpa using hi
  have hj' : j < d'.size := by simpa using hj
  have := hs i j (Nat.zero_le _) hij (by omega)
  rw [getElem!_pos d' j hj', getElem!_pos d' i hi', ltT_eq] at this
  simp only [decide_eq_false_iff_not] at this
  have h2 : leK (key d'[i]) (key d'[j]) = true := by
    unfold leK key
    exact decide_eq_true (by dsimp only; omega)
  simpa using h2

theorem nodup_len : ∀ (l l2 : List Int), l.Nodup → (∀ x ∈ l, x ∈ l2) → l.length ≤ l2.length
  | [], l2, _, _ => Nat.zero_le _
  | x :: l, l2, h, hs => by
    rw [List.nodup_cons] at h
    have hx := hs x (by simp)
    have := nodup_len l (l2.erase x) h.2 (fun y hy => (List.mem_erase_of_ne (fun e => h.1 (by rw [← e]; exact hy))).2 (hs y (by simp [hy])))
    rw [List.length_erase_of_mem hx] at this
    have h2 := List.length_pos_of_mem hx
    simp only [List.length_cons]
    omega

theorem J.len {n : Int} {L : List Tm} {rows : Nat → List Int} {rest : List Int} (j : J n L rows rest) (i : Nat) : (rows i).length ≤ L.length := by
  have := nodup_len (rows i) (L.map Tm.h) (j.rnd i) (fun x hx => by
    obtain ⟨_, t, ht, hh, _⟩ := (j.mem i x).1 hx
    exact List.mem_map.2 ⟨t, ht, hh⟩)
  simpa using this

/-- Put back: the same times and names. -/
theorem putL_back {n : Int} {L : List Tm} {t : Tm} (hnd : (L.map Tm.h).Nodup) (ht : t ∈ L) : ((putL n L t).map key).Perm (L.map key) := by
  induction L with
  | nil => cases ht
  | cons q L ih =>
    rw [List.map_cons, List.nodup_cons] at hnd
    unfold putL at ih ⊢
    by_cases e : q.h = t.h
    · have hq : q = t := by
        rcases List.mem_cons.1 ht with rfl | h
        · rfl
        · exact absurd (List.mem_map.2 ⟨t, h, e.symm⟩) hnd.1
      subst hq
      have hf : L.filter (fun x => decide (x.h ≠ q.h)) = L := List.filter_eq_self.2 (fun a ha => decide_eq_true (fun e => hnd.1 (List.mem_map.2 ⟨a, ha, e⟩)))
      rw [List.filter_cons_of_neg (by simp), hf, List.map_append, List.map_cons]
      exact List.perm_append_comm.trans (by simp [key, laidAt])
    · have ht' : t ∈ L := by
        rcases List.mem_cons.1 ht with rfl | h
        · exact absurd rfl e
        · exact h
      rw [List.filter_cons_of_pos (by simpa using e), List.cons_append, List.map_cons, List.map_cons]
      exact (ih hnd.2 ht').cons _

theorem putL_new {n : Int} {L : List Tm} {t : Tm} (hf : ∀ x ∈ L, x.h ≠ t.h) : putL n L t = L ++ [laidAt n t] := by
  unfold putL
  rw [List.filter_eq_self.2 (fun a ha => decide_eq_true (hf a ha))]

theorem putL_len {n : Int} {L : List Tm} {t : Tm} (hnd : (L.map Tm.h).Nodup) (ht : t ∈ L) : (putL n L t).length = L.length := by
  have := (putL_back (n := n) hnd ht).length_eq
  simpa using this

/-- In parts. -/
theorem keys_split (L : List Tm) (n : Int) : (L.map key).filter (fun p => decide (p.1 ≤ n)) = (L.filter (fun t => decide (t.at_ ≤ n))).map key := by rw [List.filter_map]; rfl
theorem keys_rest (L : List Tm) (n : Int) : (L.map key).filter (fun p => decide (n < p.1)) = (L.filter (fun t => decide (n < t.at_))).map key := by rw [List.filter_map]; rfl

/-- What is told, and what is left. -/
def outK (e : Int) (K : List (Int × Int)) : List Int := (sortK (K.filter (fun p => decide (p.1 ≤ e)))).map Prod.snd
def restK (e : Int) (K : List (Int × Int)) : List (Int × Int) := K.filter (fun p => decide (e < p.1))

theorem split_perm {α : Type} (K : List α) (p : α → Bool) : (K.filter p ++ K.filter (fun x => !p x)).Perm K := List.filter_append_perm p K

end Go.Proofs.Ytkjokpmlnnjmoaa.Wh

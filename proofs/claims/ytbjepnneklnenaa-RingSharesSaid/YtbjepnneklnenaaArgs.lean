/- Arguments that are structs of plain fields, and slices of such, opened to their cells, whatever their depth. Over any program; no condition. -/
import Derived.Deep.Slices
import Derived.Deep.Fields
import Derived.ChangeSame
import Derived.Deep.Strs
import Derived.Test.YtbjepnneklnenaaWWords
set_option linter.unusedVariables false
namespace Go.Proofs.Ytbjepnneklnenaa.Args
open Go.ChangeShapes Go.WideShapes Go.Deep

/-- A plain cell's kind. -/
inductive Bs where
  | int (k : IntKind) | bool | string

/-- A cell of that kind. -/
def Bs.fit : Bs → Value → Prop
  | .int k, v => ∃ x, v = .int k x ∧ (Lit.int k x).wf = true
  | .bool, v => ∃ b, v = .bool b
  | .string, v => ∃ s, v = .string s ∧ s.size ≤ maxLen

/-- The cells of a list of fields, each by its place. -/
def flatAll (F : TypeId → Option (List (Nat × Bs))) : List Field → Option (List (Nat × Bs))
  | [] => some []
  | f :: r => match F f.type, flatAll F r with
    | some a, some b => some (a.map (fun x => (f.offset + x.1, x.2)) ++ b)
    | _, _ => none

/-- A type's cells, if all are plain. -/
def flat (P : Program) : Nat → TypeId → Option (List (Nat × Bs))
  | 0, _ => none
  | n + 1, t => match P.underlying t with
    | some (.int k) => some [(0, .int k)]
    | some .bool => some [(0, .bool)]
    | some .string => some [(0, .string)]
    | some (.struct fs) => flatAll (flat P n) fs.toList
    | _ => none

theorem flatAll_mem {F : TypeId → Option (List (Nat × Bs))} : ∀ {fs : List Field} {L : List (Nat × Bs)} {o : Nat} {k : Bs}, flatAll F fs = some L → (o, k) ∈ L → ∃ (j : Nat) (f : Field) (M : List (Nat × Bs)) (o' : Nat), fs[j]? = some f ∧ F f.type = some M ∧ (o', k) ∈ M ∧ o = f.offset + o'
  | [], L, o, k, h, hm => by
    simp only [flatAll, Option.some.injEq] at h
    subst h
    cases hm
  | f :: r, L, o, k, h, hm => by
    simp only [flatAll] at h
    cases hF : F f.type with
    | none => rw [hF] at h; cases h
    | some a =>
      cases hr : flatAll F r with
      | none => rw [hF, hr] at h; cases h
      | some b =>
        rw [hF, hr] at h
        simp only [Option.some.injEq] at h
        subst h
        rcases List.mem_append.1 hm with h1 | h1
        · obtain ⟨x, hx, he⟩ := List.mem_map.1 h1
          obtain ⟨rfl, rfl⟩ := Prod.mk.inj he
          exact ⟨0, f, a, x.1, rfl, hF, hx, rfl⟩
        · obtain ⟨j, g, M, o', h2, h3, h4, h5⟩ := flatAll_mem hr h1
          exact ⟨j + 1, g, M, o', by simpa using h2, h3, h4, h5⟩

section
variable {H : Type} {enc : TypeId × Value → H} {P : Program} {w : World} {base : Nat} {spare : Nat → Bool} {held : Bool}

/-- What reads as a plain type has that type's cells. -/
theorem flat_cells : ∀ (n : Nat) {t : TypeId} {L : List (Nat × Bs)} {fuel : Nat} {cs : List Value} {x : DataW H × List MemPlace}, flat P n t = some L → DataW.trod enc P w base spare held fuel t cs = some x →
    ∀ o k, (o, k) ∈ L → ∃ v, cs[o]? = some v ∧ k.fit v
  | 0, t, L, fuel, cs, x, hL, h, o, k, hm => by simp [flat] at hL
  | n + 1, t, L, 0, cs, x, hL, h, o, k, hm => by simp [DataW.trod] at h
  | n + 1, t, L, fuel + 1, cs, x, hL, h, o, k, hm => by
    simp only [flat] at hL
    cases hu : P.underlying t with
    | none => rw [hu] at hL; cases hL
    | some u =>
      rw [hu] at hL
      cases u with
      | int kk =>
        simp only [Option.some.injEq] at hL
        subst hL
        obtain ⟨rfl, rfl⟩ : o = 0 ∧ k = .int kk := by simpa using hm
        obtain ⟨m, rfl, _, hwf⟩ := DataW.trod_int hu h
        exact ⟨_, rfl, _, rfl, hwf⟩
      | bool =>
        simp only [Option.some.injEq] at hL
        subst hL
        obtain ⟨rfl, rfl⟩ : o = 0 ∧ k = .bool := by simpa using hm
        simp only [DataW.trod, hu] at h
        split at h <;> simp_all [Bs.fit]
      | string =>
        simp only [Option.some.injEq] at hL
        subst hL
        obtain ⟨rfl, rfl⟩ : o = 0 ∧ k = .string := by simpa using hm
        simp only [DataW.trod, hu] at h
        split at h <;> simp_all [Bs.fit]
      | struct fs =>
        simp only at hL
        obtain ⟨j, f, M, o', hj, hF, hm', rfl⟩ := flatAll_mem hL hm
        obtain ⟨ys, n', hn', hy, hlen, hyl, hf⟩ := DataW.trod_struct hu h
        have hj' : fs[j]? = some f := by simpa using hj
        have hjl : j < fs.size := (Array.getElem?_eq_some_iff.1 hj').1
        have h1 := hf j f hj'
        have hys : ys[j]? = some (ys[j]'(by omega)) := List.getElem?_eq_getElem (by omega)
        rw [hys] at h1
        obtain ⟨v, hv, hfit⟩ := flat_cells n hF h1 o' k hm'
        refine ⟨v, ?_, hfit⟩
        rw [List.getElem?_take] at hv
        split at hv
        · rw [List.getElem?_drop] at hv
          exact hv
        · cases hv
      | _ => simp at hL

/-- A slice of plain structs: nil, or at each index each cell of its kind. -/
theorem open_rows {t e : TypeId} {L : List (Nat × Bs)} {n : Nat} {A : Option Addr} {len cap : Nat} {d : DataW H} {ps : List MemPlace} (ht : P.underlying t = some (.slice e)) (hL : flat P n e = some L)
    (h : DataW.Trod enc P w base spare held t (.slice A len cap) d ps) (hb : ∀ b, len ≤ cap → len ≤ (if spare b then cap else len)) :
    len ≤ maxLen ∧ ∀ i, i < len → ∃ a, A = some a ∧ ∀ o k, (o, k) ∈ L → ∃ v, w.cell? (a.add (i * P.cellsOf e + o)) = some v ∧ k.fit v := by
  obtain ⟨fuel, hf⟩ := h
  rcases open_slice ht hf with ⟨hcs, _⟩ | ⟨a, l, c, m, n', D, Pl, hcs, _, hl, hm, hmm, _, hi⟩
  · simp [Value.cells] at hcs
    obtain ⟨rfl, rfl, rfl⟩ := hcs
    exact ⟨by simp [maxLen], fun i hi => by omega⟩
  · simp [Value.cells] at hcs
    obtain ⟨rfl, rfl, rfl⟩ := hcs
    refine ⟨Nat.le_trans hl hm, fun i hil => ⟨a, rfl, fun o k hk => ?_⟩⟩
    have him : i < m := by rw [hmm]; exact Nat.lt_of_lt_of_le hil (hb a.block hl)
    obtain ⟨cs', hc, ht'⟩ := hi i him
    obtain ⟨v, hv, hfit⟩ := flat_cells n hL ht' o k hk
    obtain ⟨_, hcl, hat⟩ := World.cells?_some hc
    have hol : o < P.cellsOf e := by
      have := (List.getElem?_eq_some_iff.1 hv).1
      omega
    refine ⟨v, ?_, hfit⟩
    rw [← Go.Deep.add_add, hat o hol, hv]
end

section
variable {H : Type} {enc : TypeId × Value → H} {P : Program} {w : World} {base : Nat} {spare : Nat → Bool} {held : Bool}
theorem len_cap {t e : TypeId} {A : Option Addr} {len cap : Nat} {d : DataW H} {ps : List MemPlace} (ht : P.underlying t = some (.slice e)) (h : DataW.Trod enc P w base spare held t (.slice A len cap) d ps) : len ≤ cap := by
  obtain ⟨fuel, hf⟩ := h
  rcases open_slice ht hf with ⟨hcs, _⟩ | ⟨a, l, c, m, n', D, Pl, hcs, _, hl, _⟩
  · simp [Value.cells] at hcs
    obtain ⟨rfl, rfl, rfl⟩ := hcs
    exact Nat.le_refl _
  · simp [Value.cells] at hcs
    obtain ⟨rfl, rfl, rfl⟩ := hcs
    exact hl

/-- A struct of plain fields by value: each cell of its kind. -/
theorem agg_cell {t : TypeId} {L : List (Nat × Bs)} {n : Nat} {cs : Array Value} {d : DataW H} {ps : List MemPlace} (hL : flat P n t = some L) (h : DataW.Trod enc P w base spare held t (.agg cs) d ps) :
    ∀ o k, (o, k) ∈ L → ∃ v, cs[o]? = some v ∧ k.fit v := by
  obtain ⟨fuel, hf⟩ := h
  intro o k hm
  obtain ⟨v, hv, hk⟩ := flat_cells n hL hf o k hm
  exact ⟨v, by simpa [Value.cells] using hv, hk⟩

open Go.Proofs.YtbjepnneklnenaaW.PrintWords in
/-- A slice of bools reads as a list. -/
theorem bools_of {e : TypeId} {A : Option Addr} {len : Nat} (hone : P.cellsOf e = 1) (hm : len ≤ maxLen) (h : ∀ i, i < len → ∃ a, A = some a ∧ ∀ o k, (o, k) ∈ [(0, Bs.bool)] → ∃ v, w.cell? (a.add (i * P.cellsOf e + o)) = some v ∧ k.fit v) :
    ∃ l : List Bool, len = l.length ∧ Kd.C Kd.bool w A l.length l := by
  have h2 : ∀ i, ∃ b : Bool, i < len → ∃ a, A = some a ∧ w.cell? (a.add i) = some (.bool b) := by
    intro i
    by_cases hi : i < len
    · obtain ⟨a, hA, hc⟩ := h i hi
      rw [hone, Nat.mul_one] at hc
      obtain ⟨v, hv, b, rfl⟩ := hc 0 .bool (by simp)
      exact ⟨b, fun _ => ⟨a, hA, hv⟩⟩
    · exact ⟨false, fun hh => absurd hh hi⟩
  obtain ⟨f, hf⟩ := Classical.axiomOfChoice h2
  refine ⟨(List.range len).map f, by simp, ?_⟩
  refine Kd.C_of_reads (enc := Value.bool) (d := false) (h1 := fun _ => rfl) ?_
  rw [List.length_map, List.length_range]
  refine ⟨by simp, by simpa [maxLen] using hm, fun h0 => ?_⟩
  obtain ⟨a, hA, _⟩ := hf 0 h0
  refine ⟨a, hA, fun j hj => ?_⟩
  obtain ⟨a2, hA2, hc⟩ := hf j hj
  rw [hA] at hA2
  cases hA2
  simpa [hj] using hc
end

end Go.Proofs.Ytbjepnneklnenaa.Args

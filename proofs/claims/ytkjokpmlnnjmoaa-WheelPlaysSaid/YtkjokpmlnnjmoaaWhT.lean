/- Wheel: sorting timers. -/
import Derived.Test.YtkjokpmlnnjmoaaWhC
import Derived.Test.YtkjokpmlnnjmoaaWhLs
set_option linter.unusedVariables false
set_option linter.unusedSimpArgs false
namespace Go.Proofs.Ytkjokpmlnnjmoaa.Wh
open Go.RowKit Go.Maps Go.Shelf Go.Lib Go.Sort Go.Proofs.Ytkjokpmlnnjmoaa.Base Go.Proofs.Ytkjokpmlnnjmoaa.Rws Go.Proofs.YtkjokpmlnnjmoaaW.PrintWords Go.Proofs.YtkjokpmlnnjmoaaW.PrintMore
attribute [local go_sem] max2_mx min2_mn max_two min_two max_three min_three max_four min_four

theorem flat_get (L : List Tm) (j : Nat) (hj : j < L.length * 4) : (L.flatMap encT)[j]? = some (flatK encT 4 L.toArray)[j]! := by
  have hi : j / 4 < L.length := by omega
  rw [get_flatK _ _ _ _ (by simpa using hj)]
  have h := encT_at L (j / 4) (j % 4) L[j / 4] (List.getElem?_eq_getElem hi) (Nat.mod_lt _ (by decide))
  rw [show j / 4 * 4 + j % 4 = j by omega] at h
  rw [h, getElem!_pos L.toArray (j / 4) (by simpa using hi), List.getElem_toArray]
  have hlt : j % 4 < (encT L[j / 4]).length := by simp [encT]; omega
  rw [List.getElem?_eq_getElem hlt, getElem!_pos (encT L[j / 4]) (j % 4) hlt]

theorem flat_len (L : List Tm) : (L.flatMap encT).length = L.length * 4 := by
  induction L with
  | nil => rfl
  | cons q L ih => rw [List.flatMap_cons, List.length_append, ih, List.length_cons]; simp [encT]; omega

theorem holds_of {w : World} {P : Nat → Prop} {q o c : Nat} {L : List Tm} (h : Row 4 60 w P (.slice (some ⟨q, o, none⟩) L.length c) L.length (L.flatMap encT)) : HoldsK encT 4 w q o L.toArray := by
  intro j hj
  rw [size_flatK] at hj
  exact ⟨Row.cell h j (flat_get L j (by simpa using hj)), Row.frozen h j⟩

/-- What is put into a row. -/
theorem put_row {w : World} {P : Nat → Prop} {q o c n : Nat} {L : List Tm} (h : Row 4 60 w P (.slice (some ⟨q, o, none⟩) n c) n (L.flatMap encT)) (d : Array Tm) (hd : d.size = n) (m : Nat) (os : Array Obj) :
    Row 4 60 (sortWorldK encT 4 w q o m d os) P (.slice (some ⟨q, o, none⟩) n c) n (d.toList.flatMap encT) ∧ Only (fun k => k = q) w (sortWorldK encT 4 w q o m d os) := by
  rcases h with ⟨h, _⟩ | ⟨q', o', c', cells, hv, hP, hh, h1, h2, h3, h4⟩
  · cases h
  · injection hv with e1 e2 e3
    injection e1 with e1
    injection e1 with e4 e5
    subst e3 e4 e5
    have hheap : (sortWorldK encT 4 w q o m d os).heap = w.heap.modify q (onCells (putCells id o (flatK encT 4 d))) ++ os := rfl
    have hq : q < w.heap.size := blk_lt hh
    constructor
    · refine .inr ⟨q, o, c, putCells id o (flatK encT 4 d) cells, rfl, hP, ?_, h1, by simpa [putCells] using h2, by rw [flat_len, Array.length_toList, hd], fun j u hu => ?_⟩
      · rw [hheap, Array.getElem?_append_left (by simpa using hq), Array.getElem?_modify, if_pos rfl, hh]
        rfl
      · have hj : j < n * 4 := by
          have := (List.getElem?_eq_some_iff.1 hu).1
          rw [flat_len, Array.length_toList, hd] at this
          exact this
        have hf := flat_get d.toList j (by rw [Array.length_toList, hd]; exact hj)
        rw [hu] at hf
        have hsz : o + j < cells.size := by
          have := Nat.mul_le_mul_right 4 h1.1
          omega
        unfold putCells
        rw [Array.getElem?_mapIdx, Array.getElem?_eq_getElem hsz, Option.map_some, if_pos ⟨by omega, by rw [size_flatK, hd]; omega⟩, Nat.add_sub_cancel_left, id, hf]
    · refine ⟨rfl, rfl, rfl, ?_, fun i hi hn => ?_⟩
      · rw [hheap]; simp
      · rw [hheap, Array.getElem?_append_left (by simpa using hi), Array.getElem?_modify, if_neg (fun e => hn e.symm)]

theorem isAgg60 (w : World) : (isAgg 60).run Try.prog w = .ok true w := by kernel_rfl
theorem sizeOf60 (w : World) : (Go.sizeOf 60).run Try.prog w = .ok 4 w := by kernel_rfl

theorem sort_p {w : World} {P : Nat → Prop} {v : Value} {out : List Tm} (h : Ts w P v out) (hl : out.length < 100000) :
    Calls Try.prog 26 #[v, .func (.func 27) #[] #[]] w fun e w' => e = .returned (.tuple #[]) ∧ ∃ out', Ts w' P v out' ∧ out'.map key = sortK (out.map key) ∧ Only (fun k => v.ownBlock = some k) w w' := by
  by_cases hn : out.length = 0
  · obtain ⟨A, c, hv, _⟩ := Row.form h
    rw [hn] at hv
    have h0 : out = [] := List.length_eq_zero_iff.1 hn
    rw [hv]
    have hS := AnyF.slices_SortFunc_none (P := Try.prog) (ρ := Try.sortT_ren) { Try.sortT with } A c (.func (.func 27) #[] #[]) w
    change Calls Try.prog 26 _ _ _ at hS
    refine hS.mono ?_
    rintro e w' ⟨rfl, rfl⟩
    refine ⟨rfl, out, by rw [← hv]; exact h, ?_, Only.refl _ _⟩
    rw [h0]
    exact (sortK_of (K := []) (K' := []) (.refl _) .nil)
  · obtain ⟨q, o, c, hv, hc⟩ := Row.some_ h (by omega)
    unfold Ts at h
    rw [hv] at h ⊢
    have eg : ∀ args w, (callFunc 27 args).run Try.prog w = .ok (.enter 27 args) w := enters_of Try.func27 (by kernel_rfl) rfl
    have hcmp : CmpLays Try.prog 27 #[] encT 4 cfT q o out.toArray.size w := fun _ _ _ _ x y => cmp_p x y _
    have hb : q < w.heap.size := (Row.own h (k := q) rfl).2
    have hS := AnyQ.slices_SortFunc (P := Try.prog) (ρ := Try.sortT_ren) Try.sortT 4 isAgg60 sizeOf60 encT (fun _ => rfl) (fun x v hv => by simp [encT] at hv; rcases hv with rfl | rfl | rfl | rfl <;> rfl) cfT swoT 27 #[] q o c out.toArray w eg hcmp (holds_of h) hb (by simp; omega)
    change Calls Try.prog 26 _ _ _ at hS
    rw [List.size_toArray] at hS
    refine hS.mono ?_
    rintro e w' ⟨rfl, d', n, os, hp, hs, rfl⟩
    have hk := sorted_keys (out := out) (d' := d') (by rw [List.size_toArray]; exact hp) (by rw [List.size_toArray]; exact hs)
    have hsz : d'.size = out.length := by simpa using hk.2.length_eq
    obtain ⟨hr, ho⟩ := put_row h d' hsz n os
    refine ⟨rfl, d'.toList, ?_, hk.1, ho.mono (fun k hk => by rw [hk]; rfl)⟩
    show Row 4 60 _ P (.slice (some ⟨q, o, none⟩) out.length c) d'.toList.length (d'.toList.flatMap encT)
    have : d'.toList.length = out.length := by rw [Array.length_toList, hsz]
    rw [this]
    exact hr

end Go.Proofs.Ytkjokpmlnnjmoaa.Wh

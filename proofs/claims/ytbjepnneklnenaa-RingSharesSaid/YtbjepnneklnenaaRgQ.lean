/- Ring: rows of points, and sorting them. -/
import Derived.Test.YtbjepnneklnenaaRgO
set_option linter.unusedVariables false
set_option linter.unusedSimpArgs false
set_option maxRecDepth 100000
namespace Go.Proofs.Ytbjepnneklnenaa.Rg
open Go.RowKit Go.Maps Go.Shelf Go.Lib Go.Sort Go.Proofs.Ytbjepnneklnenaa.Base Go.Proofs.Ytbjepnneklnenaa.Rws Go.Proofs.YtbjepnneklnenaaW.PrintWords Go.Proofs.YtbjepnneklnenaaW.PrintMore
attribute [local go_sem] max2_mx min2_mn max_two min_two max_three min_three max_four min_four

theorem info56 : (Try.prog.info? 56).map (fun i => (i.zero, i.size, i.bytes)) = some (some (.agg #[.int .u16 0, .int .i64 0, .int .i64 0]), 3, 24) := by kernel_rfl

def encP (t : Pt) : List Value := [.int .u16 t.a, .int .i64 t.m, .int .i64 t.n]

/-- Names of the call's own. -/
def Ps (w : World) (P : Nat → Prop) (v : Value) (L : List Pt) : Prop := Row 3 56 w P v L.length (L.flatMap encP)

theorem Ps.app {W : World} {P : Nat → Prop} {v : Value} {L : List Pt} (h : Ps W P v L) (hP : ∀ k, W.heap.size ≤ k → P k) (hl : L.length ≤ 20000) (x : Pt) (ty : TypeId) :
    ∃ v1 w1, (Builtin.append_ #[48, 48] ty #[v, .slice (some ⟨W.heap.size, 0, none⟩) 1 1]).run Try.prog (W.alloc (.cells #[.int .u16 x.a, .int .i64 x.m, .int .i64 x.n] 56)) = .ok v1 w1 ∧ Ps w1 P v1 (L ++ [x]) ∧ Only (fun k => v.ownBlock = some k) W w1 := by
  have hO : Only (fun k => v.ownBlock = some k) W (W.alloc (.cells #[.int .u16 x.a, .int .i64 x.m, .int .i64 x.n] 56)) := (Only.refl _ W).alloc _
  have hnew := heap_alloc_new W (.cells #[.int .u16 x.a, .int .i64 x.m, .int .i64 x.n] 56)
  have hrow : Row 3 56 (W.alloc (.cells #[.int .u16 x.a, .int .i64 x.m, .int .i64 x.n] 56)) P v L.length (L.flatMap encP) := Row.keep h (fun g _ hg => heap_alloc_old W _ _ hg)
  have hsz : (W.alloc (.cells #[.int .u16 x.a, .int .i64 x.m, .int .i64 x.n] 56)).heap.size = W.heap.size + 1 := by show (W.heap.push _).size = _; simp
  generalize W.alloc (.cells #[.int .u16 x.a, .int .i64 x.m, .int .i64 x.n] 56) = W1 at *
  obtain ⟨v1, w1, hr, hR, ho⟩ := Row.app (ty := ty) hrow Try.underlying48 info56 (by rfl) (fun k hk => hP k (by omega)) ⟨W.heap.size, 0, none⟩ 1 1 (encP x) (by simp [encP]) (fun i u hu => by
    rw [Addr.add_lit, Nat.zero_add]
    refine cell_at hnew i ?_
    simpa [encP] using hu) (by simp [encP, Value.oneCell']) (by omega) (by omega) (by omega)
  refine ⟨v1, w1, hr, ?_, hO.trans ho⟩
  unfold Ps
  rw [List.length_append, List.length_singleton, List.flatMap_append]
  simpa using hR

theorem encP_at : ∀ (L : List Pt) (i j : Nat) (p : Pt), L[i]? = some p → j < 3 → (L.flatMap encP)[i * 3 + j]? = (encP p)[j]?
  | [], i, j, p, h, _ => by simp at h
  | q :: L, 0, j, p, h, hj => by
    simp at h
    subst h
    rw [List.flatMap_cons, Nat.zero_mul, Nat.zero_add, List.getElem?_append_left (by simpa [encP] using hj)]
  | q :: L, i + 1, j, p, h, hj => by
    rw [List.flatMap_cons, List.getElem?_append_right (by simp [encP]; omega)]
    rw [show (i + 1) * 3 + j - (encP q).length = i * 3 + j by simp [encP]; omega]
    exact encP_at L i j p (by simpa using h) hj

theorem flatP_get (L : List Pt) (j : Nat) (hj : j < L.length * 3) : (L.flatMap encP)[j]? = some (flatK encP 3 L.toArray)[j]! := by
  have hi : j / 3 < L.length := by omega
  rw [get_flatK _ _ _ _ (by simpa using hj)]
  have h := encP_at L (j / 3) (j % 3) L[j / 3] (List.getElem?_eq_getElem hi) (Nat.mod_lt _ (by decide))
  rw [show j / 3 * 3 + j % 3 = j by omega] at h
  rw [h, getElem!_pos L.toArray (j / 3) (by simpa using hi), List.getElem_toArray]
  have hlt : j % 3 < (encP L[j / 3]).length := by simp [encP]; omega
  rw [List.getElem?_eq_getElem hlt, getElem!_pos (encP L[j / 3]) (j % 3) hlt]

theorem flatP_len (L : List Pt) : (L.flatMap encP).length = L.length * 3 := by
  induction L with
  | nil => rfl
  | cons q L ih => rw [List.flatMap_cons, List.length_append, ih, List.length_cons]; simp [encP]; omega

theorem holdsP_of {w : World} {P : Nat → Prop} {q o c : Nat} {L : List Pt} (h : Row 3 56 w P (.slice (some ⟨q, o, none⟩) L.length c) L.length (L.flatMap encP)) : HoldsK encP 3 w q o L.toArray := by
  intro j hj
  rw [size_flatK] at hj
  exact ⟨Row.cell h j (flatP_get L j (by simpa using hj)), Row.frozen h j⟩

/-- What is put into a row. -/
theorem putP_row {w : World} {P : Nat → Prop} {q o c n : Nat} {L : List Pt} (h : Row 3 56 w P (.slice (some ⟨q, o, none⟩) n c) n (L.flatMap encP)) (d : Array Pt) (hd : d.size = n) (m : Nat) (os : Array Obj) :
    Row 3 56 (sortWorldK encP 3 w q o m d os) P (.slice (some ⟨q, o, none⟩) n c) n (d.toList.flatMap encP) ∧ Only (fun k => k = q) w (sortWorldK encP 3 w q o m d os) := by
  rcases h with ⟨h, _⟩ | ⟨q', o', c', cells, hv, hP, hh, h1, h2, h3, h4⟩
  · cases h
  · injection hv with e1 e2 e3
    injection e1 with e1
    injection e1 with e4 e5
    subst e3 e4 e5
    have hheap : (sortWorldK encP 3 w q o m d os).heap = w.heap.modify q (onCells (putCells id o (flatK encP 3 d))) ++ os := rfl
    have hq : q < w.heap.size := blk_lt hh
    constructor
    · refine .inr ⟨q, o, c, putCells id o (flatK encP 3 d) cells, rfl, hP, ?_, h1, by simpa [putCells] using h2, by rw [flatP_len, Array.length_toList, hd], fun j u hu => ?_⟩
      · rw [hheap, Array.getElem?_append_left (by simpa using hq), Array.getElem?_modify, if_pos rfl, hh]
        rfl
      · have hj : j < n * 3 := by
          have := (List.getElem?_eq_some_iff.1 hu).1
          rw [flatP_len, Array.length_toList, hd] at this
          exact this
        have hf := flatP_get d.toList j (by rw [Array.length_toList, hd]; exact hj)
        rw [hu] at hf
        have hsz : o + j < cells.size := by
          have := Nat.mul_le_mul_right 3 h1.1
          omega
        unfold putCells
        rw [Array.getElem?_mapIdx, Array.getElem?_eq_getElem hsz, Option.map_some, if_pos ⟨by omega, by rw [size_flatK, hd]; omega⟩, Nat.add_sub_cancel_left, id, hf]
    · refine ⟨rfl, rfl, rfl, ?_, fun i hi hn => ?_⟩
      · rw [hheap]; simp
      · rw [hheap, Array.getElem?_append_left (by simpa using hi), Array.getElem?_modify, if_neg (fun e => hn e.symm)]

theorem isAgg56 (w : World) : (isAgg 56).run Try.prog w = .ok true w := by kernel_rfl
theorem sizeOf56 (w : World) : (Go.sizeOf 56).run Try.prog w = .ok 3 w := by kernel_rfl

theorem sortPts_p {w : World} {P : Nat → Prop} {v : Value} {out : List Pt} (h : Ps w P v out) (hl : out.length < 100000) :
    Calls Try.prog 23 #[v, .func (.func 24) #[] #[]] w fun e w' => e = .returned (.tuple #[]) ∧ ∃ out', Ps w' P v out' ∧ out' = sortP out ∧ Only (fun k => v.ownBlock = some k) w w' := by
  by_cases hn : out.length = 0
  · obtain ⟨A, c, hv, _⟩ := Row.form h
    rw [hn] at hv
    have h0 : out = [] := List.length_eq_zero_iff.1 hn
    rw [hv]
    have hS := AnyF.slices_SortFunc_none (P := Try.prog) (ρ := Try.sortP_ren) { _root_.Go.Proofs.Try.sortP with } A c (.func (.func 24) #[] #[]) w
    change Calls Try.prog 23 _ _ _ at hS
    refine hS.mono ?_
    rintro e w' ⟨rfl, rfl⟩
    refine ⟨rfl, out, by rw [← hv]; exact h, ?_, Only.refl _ _⟩
    rw [h0]
    exact (sortP_of (K := []) (K' := []) (.refl _) .nil)
  · obtain ⟨q, o, c, hv, hc⟩ := Row.some_ h (by omega)
    unfold Ps at h
    rw [hv] at h ⊢
    have eg : ∀ args w, (callFunc 24 args).run Try.prog w = .ok (.enter 24 args) w := enters_of Try.func24 (by kernel_rfl) rfl
    have hcmp : CmpLays Try.prog 24 #[] encP 3 cfP q o out.toArray.size w := fun _ _ _ _ x y => cmpP_p x y _
    have hb : q < w.heap.size := (Row.own h (k := q) rfl).2
    have hS := AnyQ.slices_SortFunc (P := Try.prog) (ρ := Try.sortP_ren) Try.sortP 3 isAgg56 sizeOf56 encP (fun _ => rfl) (fun x v hv => by simp [encP] at hv; rcases hv with rfl | rfl | rfl <;> rfl) cfP swoP 24 #[] q o c out.toArray w eg hcmp (holdsP_of h) hb (by simp; omega)
    change Calls Try.prog 23 _ _ _ at hS
    rw [List.size_toArray] at hS
    refine hS.mono ?_
    rintro e w' ⟨rfl, d', n, os, hp, hs, rfl⟩
    have hk := sorted_points (out := out) (d' := d') (by rw [List.size_toArray]; exact hp) (by rw [List.size_toArray]; exact hs)
    have hsz : d'.size = out.length := by rw [← Array.length_toList, hk, (sortP_perm out).length_eq]
    obtain ⟨hr, ho⟩ := putP_row h d' hsz n os
    refine ⟨rfl, d'.toList, ?_, hk, ho.mono (fun k hk => by rw [hk]; rfl)⟩
    show Row 3 56 _ P (.slice (some ⟨q, o, none⟩) out.length c) d'.toList.length (d'.toList.flatMap encP)
    have : d'.toList.length = out.length := by rw [Array.length_toList, hsz]
    rw [this]
    exact hr

end Go.Proofs.Ytbjepnneklnenaa.Rg

/- Alarm: rows of names, and sorting them. -/
import Derived.Test.YtmkcckkjkfmheaaAlY
import Derived.Test.YtmkcckkjkfmheaaAa
import Derived.Test.YtmkcckkjkfmheaaWhLs
set_option linter.unusedVariables false
set_option linter.unusedSimpArgs false
set_option maxRecDepth 100000
namespace Go.Proofs.Ytmkcckkjkfmheaa.Al
open Go.RowKit Go.Maps Go.Shelf Go.Lib Go.Sort Go.Proofs.Ytmkcckkjkfmheaa.Base Go.Proofs.Ytmkcckkjkfmheaa.Rws Go.Proofs.Ytmkcckkjkfmheaa.Wh Go.Proofs.YtmkcckkjkfmheaaW.PrintWords Go.Proofs.YtmkcckkjkfmheaaW.PrintMore
attribute [local go_sem] max2_mx min2_mn max_two min_two max_three min_three max_four min_four

theorem info33 : (Try.prog.info? 33).map (fun i => (i.zero, i.size, i.bytes)) = some (some (.agg #[.int .i64 0, .int .i64 0, .int .i64 0, .int .i64 0, .int .i64 0]), 5, 40) := by kernel_rfl

def encN (t : K5) : List Value := [.int .i64 t.a, .int .i64 t.b, .int .i64 t.c, .int .i64 t.d, .int .i64 t.e]

/-- Names of the call's own. -/
def Ns (w : World) (P : Nat → Prop) (v : Value) (L : List K5) : Prop := Row 5 33 w P v L.length (L.flatMap encN)

theorem Ns.app {W : World} {P : Nat → Prop} {v : Value} {L : List K5} (h : Ns W P v L) (hP : ∀ k, W.heap.size ≤ k → P k) (hl : L.length ≤ 20000) (x : K5) (ty : TypeId) :
    ∃ v1 w1, (Builtin.append_ #[35, 35] ty #[v, .slice (some ⟨W.heap.size, 0, none⟩) 1 1]).run Try.prog (W.alloc (boxN x)) = .ok v1 w1 ∧ Ns w1 P v1 (L ++ [x]) ∧ Only (fun k => v.ownBlock = some k) W w1 := by
  have hO : Only (fun k => v.ownBlock = some k) W (W.alloc (boxN x)) := (Only.refl _ W).alloc _
  have hnew := heap_alloc_new W (boxN x)
  have hrow : Row 5 33 (W.alloc (boxN x)) P v L.length (L.flatMap encN) := Row.keep h (fun g _ hg => heap_alloc_old W _ hg)
  have hsz : (W.alloc (boxN x)).heap.size = W.heap.size + 1 := by show (W.heap.push _).size = _; simp
  generalize W.alloc (boxN x) = W1 at *
  obtain ⟨v1, w1, hr, hR, ho⟩ := Row.app (ty := ty) hrow Try.underlying35 info33 (by rfl) (fun k hk => hP k (by omega)) ⟨W.heap.size, 0, none⟩ 1 1 (encN x) (by simp [encN]) (fun i u hu => by
    rw [Addr.add_lit, Nat.zero_add]
    refine cell_at hnew i ?_
    simpa [encN] using hu) (by simp [encN, Value.oneCell']) (by omega) (by omega) (by omega)
  refine ⟨v1, w1, hr, ?_, hO.trans ho⟩
  unfold Ns
  rw [List.length_append, List.length_singleton, List.flatMap_append]
  simpa using hR

theorem encN_at : ∀ (L : List K5) (i j : Nat) (p : K5), L[i]? = some p → j < 5 → (L.flatMap encN)[i * 5 + j]? = (encN p)[j]?
  | [], i, j, p, h, _ => by simp at h
  | q :: L, 0, j, p, h, hj => by
    simp at h
    subst h
    rw [List.flatMap_cons, Nat.zero_mul, Nat.zero_add, List.getElem?_append_left (by simpa [encN] using hj)]
  | q :: L, i + 1, j, p, h, hj => by
    rw [List.flatMap_cons, List.getElem?_append_right (by simp [encN]; omega)]
    rw [show (i + 1) * 5 + j - (encN q).length = i * 5 + j by simp [encN]; omega]
    exact encN_at L i j p (by simpa using h) hj

theorem flatN_get (L : List K5) (j : Nat) (hj : j < L.length * 5) : (L.flatMap encN)[j]? = some (flatK encN 5 L.toArray)[j]! := by
  have hi : j / 5 < L.length := by omega
  rw [get_flatK _ _ _ _ (by simpa using hj)]
  have h := encN_at L (j / 5) (j % 5) L[j / 5] (List.getElem?_eq_getElem hi) (Nat.mod_lt _ (by decide))
  rw [show j / 5 * 5 + j % 5 = j by omega] at h
  rw [h, getElem!_pos L.toArray (j / 5) (by simpa using hi), List.getElem_toArray]
  have hlt : j % 5 < (encN L[j / 5]).length := by simp [encN]; omega
  rw [List.getElem?_eq_getElem hlt, getElem!_pos (encN L[j / 5]) (j % 5) hlt]

theorem flatN_len (L : List K5) : (L.flatMap encN).length = L.length * 5 := by
  induction L with
  | nil => rfl
  | cons q L ih => rw [List.flatMap_cons, List.length_append, ih, List.length_cons]; simp [encN]; omega

theorem holdsN_of {w : World} {P : Nat → Prop} {q o c : Nat} {L : List K5} (h : Row 5 33 w P (.slice (some ⟨q, o, none⟩) L.length c) L.length (L.flatMap encN)) : HoldsK encN 5 w q o L.toArray := by
  intro j hj
  rw [size_flatK] at hj
  exact ⟨Row.cell h j (flatN_get L j (by simpa using hj)), Row.frozen h j⟩

/-- What is put into a row. -/
theorem putN_row {w : World} {P : Nat → Prop} {q o c n : Nat} {L : List K5} (h : Row 5 33 w P (.slice (some ⟨q, o, none⟩) n c) n (L.flatMap encN)) (d : Array K5) (hd : d.size = n) (m : Nat) (os : Array Obj) :
    Row 5 33 (sortWorldK encN 5 w q o m d os) P (.slice (some ⟨q, o, none⟩) n c) n (d.toList.flatMap encN) ∧ Only (fun k => k = q) w (sortWorldK encN 5 w q o m d os) := by
  rcases h with ⟨h, _⟩ | ⟨q', o', c', cells, hv, hP, hh, h1, h2, h3, h4⟩
  · cases h
  · injection hv with e1 e2 e3
    injection e1 with e1
    injection e1 with e4 e5
    subst e3 e4 e5
    have hheap : (sortWorldK encN 5 w q o m d os).heap = w.heap.modify q (onCells (putCells id o (flatK encN 5 d))) ++ os := rfl
    have hq : q < w.heap.size := blk_lt hh
    constructor
    · refine .inr ⟨q, o, c, putCells id o (flatK encN 5 d) cells, rfl, hP, ?_, h1, by simpa [putCells] using h2, by rw [flatN_len, Array.length_toList, hd], fun j u hu => ?_⟩
      · rw [hheap, Array.getElem?_append_left (by simpa using hq), Array.getElem?_modify, if_pos rfl, hh]
        rfl
      · have hj : j < n * 5 := by
          have := (List.getElem?_eq_some_iff.1 hu).1
          rw [flatN_len, Array.length_toList, hd] at this
          exact this
        have hf := flatN_get d.toList j (by rw [Array.length_toList, hd]; exact hj)
        rw [hu] at hf
        have hsz : o + j < cells.size := by
          have := Nat.mul_le_mul_right 4 h1.1
          omega
        unfold putCells
        rw [Array.getElem?_mapIdx, Array.getElem?_eq_getElem hsz, Option.map_some, if_pos ⟨by omega, by rw [size_flatK, hd]; omega⟩, Nat.add_sub_cancel_left, id, hf]
    · refine ⟨rfl, rfl, rfl, ?_, fun i hi hn => ?_⟩
      · rw [hheap]; simp
      · rw [hheap, Array.getElem?_append_left (by simpa using hi), Array.getElem?_modify, if_neg (fun e => hn e.symm)]

theorem isAgg33 (w : World) : (isAgg 33).run Try.prog w = .ok true w := by kernel_rfl
theorem sizeOf33 (w : World) : (Go.sizeOf 33).run Try.prog w = .ok 5 w := by kernel_rfl

theorem sortN_p {w : World} {P : Nat → Prop} {v : Value} {out : List K5} (h : Ns w P v out) (hl : out.length < 100000) :
    Calls Try.prog 31 #[v, .func (.func 18) #[] #[]] w fun e w' => e = .returned (.tuple #[]) ∧ ∃ out', Ns w' P v out' ∧ out' = sortN out ∧ Only (fun k => v.ownBlock = some k) w w' := by
  by_cases hn : out.length = 0
  · obtain ⟨A, c, hv, _⟩ := Row.form h
    rw [hn] at hv
    have h0 : out = [] := List.length_eq_zero_iff.1 hn
    rw [hv]
    have hS := AnyF.slices_SortFunc_none (P := Try.prog) (ρ := Try.sortN_ren) { Try.sortN with } A c (.func (.func 18) #[] #[]) w
    change Calls Try.prog 31 _ _ _ at hS
    refine hS.mono ?_
    rintro e w' ⟨rfl, rfl⟩
    refine ⟨rfl, out, by rw [← hv]; exact h, ?_, Only.refl _ _⟩
    rw [h0]
    exact (sortN_of (K := []) (K' := []) (.refl _) .nil)
  · obtain ⟨q, o, c, hv, hc⟩ := Row.some_ h (by omega)
    unfold Ns at h
    rw [hv] at h ⊢
    have eg : ∀ args w, (callFunc 18 args).run Try.prog w = .ok (.enter 18 args) w := enters_of Try.func18 (by kernel_rfl) rfl
    have hcmp : CmpLays Try.prog 18 #[] encN 5 cfN q o out.toArray.size w := fun _ _ _ _ x y => cmpN_p x y _
    have hb : q < w.heap.size := (Row.own h (k := q) rfl).2
    have hS := AnyQ.slices_SortFunc (P := Try.prog) (ρ := Try.sortN_ren) Try.sortN 5 isAgg33 sizeOf33 encN (fun _ => rfl) (fun x v hv => by simp [encN] at hv; rcases hv with rfl | rfl | rfl | rfl | rfl <;> rfl) cfN swoN 18 #[] q o c out.toArray w eg hcmp (holdsN_of h) hb (by simp; omega)
    change Calls Try.prog 31 _ _ _ at hS
    rw [List.size_toArray] at hS
    refine hS.mono ?_
    rintro e w' ⟨rfl, d', n, os, hp, hs, rfl⟩
    have hk := sorted_names (out := out) (d' := d') (by rw [List.size_toArray]; exact hp) (by rw [List.size_toArray]; exact hs)
    have hsz : d'.size = out.length := by rw [← Array.length_toList, hk, (sortN_perm out).length_eq]
    obtain ⟨hr, ho⟩ := putN_row h d' hsz n os
    refine ⟨rfl, d'.toList, ?_, hk, ho.mono (fun k hk => by rw [hk]; rfl)⟩
    show Row 5 33 _ P (.slice (some ⟨q, o, none⟩) out.length c) d'.toList.length (d'.toList.flatMap encN)
    have : d'.toList.length = out.length := by rw [Array.length_toList, hsz]
    rw [this]
    exact hr

end Go.Proofs.Ytmkcckkjkfmheaa.Al

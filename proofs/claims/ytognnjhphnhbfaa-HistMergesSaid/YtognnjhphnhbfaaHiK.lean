/- Hist: rows of whole numbers, and of buckets' rows; a map of counts. -/
import Derived.Test.YtognnjhphnhbfaaHi
set_option linter.unusedVariables false
set_option linter.unusedSimpArgs false
namespace Go.Proofs.Ytognnjhphnhbfaa.Hi
open Go.Sort (grow heap_grow_old putRow mapBlock onCells)
open Go.RowKit Go.Maps Go.Proofs.Ytognnjhphnhbfaa.Base Go.Proofs.Ytognnjhphnhbfaa.Rws Go.Proofs.YtognnjhphnhbfaaW.PrintWords Go.Proofs.YtognnjhphnhbfaaW.PrintMore
attribute [local go_sem] max2_mx min2_mn max_two min_two max_three min_three max_four min_four

theorem info3 : (Try.prog.info? 3).map (fun i => (i.zero, i.size, i.bytes)) = some (some (.int .i64 0), 1, 8) := by kernel_rfl
theorem info44 : (Try.prog.info? 44).map (fun i => (i.zero, i.size, i.bytes)) = some (some (.agg #[.int .i64 0, .int .i64 0, .int .i64 0]), 3, 24) := by kernel_rfl

/-- Whole numbers of the call's own. -/
def Ks (w : World) (P : Nat → Prop) (v : Value) (L : List Int) : Prop := Row 1 3 w P v L.length (L.map (Value.int .i64))

theorem Ks.app {W : World} {P : Nat → Prop} {v : Value} {L : List Int} (h : Ks W P v L) (hP : ∀ k, W.heap.size ≤ k → P k) (hl : L.length ≤ 2000) (x : Int) (ty : TypeId) :
    ∃ v1 w1, (Builtin.append_ #[25, 25] ty #[v, .slice (some ⟨W.heap.size, 0, none⟩) 1 1]).run Try.prog (W.alloc (.cells #[.int .i64 x] 3)) = .ok v1 w1 ∧ Ks w1 P v1 (L ++ [x]) ∧ Only (fun k => v.ownBlock = some k) W w1 := by
  have hO : Only (fun k => v.ownBlock = some k) W (W.alloc (.cells #[.int .i64 x] 3)) := (Only.refl _ W).alloc _
  have hnew := heap_alloc_new W (.cells #[.int .i64 x] 3)
  have hrow : Row 1 3 (W.alloc (.cells #[.int .i64 x] 3)) P v L.length (L.map (Value.int .i64)) := Row.keep h (fun g _ hg => heap_alloc_old W _ hg)
  have hsz : (W.alloc (.cells #[.int .i64 x] 3)).heap.size = W.heap.size + 1 := by show (W.heap.push _).size = _; simp
  generalize W.alloc (.cells #[.int .i64 x] 3) = W1 at *
  obtain ⟨v1, w1, hr, hR, ho⟩ := Row.app (ty := ty) hrow Try.underlying25 info3 (by rfl) (fun k hk => hP k (by omega)) ⟨W.heap.size, 0, none⟩ 1 1 [.int .i64 x] (by simp) (fun i u hu => by
    rw [Addr.add_lit, Nat.zero_add]
    refine cell_at hnew i ?_
    simpa using hu) (by simp [Value.oneCell']) (by omega) (by omega) (by omega)
  refine ⟨v1, w1, hr, ?_, hO.trans ho⟩
  unfold Ks
  rw [List.length_append, List.length_singleton, List.map_append]
  simpa using hR

theorem Ks.ne {w : World} {P : Nat → Prop} {v : Value} {L : List Int} (h : Ks w P v L) {g : Nat} {cs : Array Value} {t : TypeId} (hg : w.heap[g]? = some (.cells cs t (0, 0))) (ht : t ≠ 3 := by decide) : ¬ v.ownBlock = some g := Row.ne h hg ht

theorem Row.neMap {sz : Nat} {e : TypeId} {w : World} {P : Nat → Prop} {v : Value} {n : Nat} {xs : List Value} (h : Row sz e w P v n xs) {g : Nat} {es : Array MapEntry} {c : Nat} (hg : w.heap[g]? = some (.map es c)) : v.ownBlock ≠ some g := by
  intro hv
  rcases h with ⟨rfl, _⟩ | ⟨q, o, c, cells, rfl, _, hh, _⟩
  · simp [Value.ownBlock] at hv
  · simp [Value.ownBlock] at hv
    subst hv
    rw [hh] at hg
    cases hg

/-- A row behind a sort. -/
theorem Ks.sorted {w w' : World} {P : Nat → Prop} {q o c m : Nat} {os : Array Obj} {L d : List Int} (h : Ks w P (.slice (some ⟨q, o, none⟩) L.length c) L) (hd : d.length = L.length)
    (hw : w' = grow (putRow (Value.int .i64) (Sort.ahead w m) q o d.toArray) os) : Ks w' P (.slice (some ⟨q, o, none⟩) d.length c) d ∧ Only (fun k => k = q) w w' := by
  rcases h with ⟨h, _⟩ | ⟨g', o', c', cells, hv, hg, hh, h1, h2, h3, h4⟩
  · cases h
  · injection hv with e1 e2 e3
    injection e1 with e1
    injection e1 with e4 e5
    subst e3 e4 e5
    have hlt := blk_lt hh
    have hblk : w'.heap[q]? = some (.cells (Sort.putCells (Value.int .i64) o d.toArray cells) 3 (0, 0)) := by
      rw [hw, heap_grow_old _ _ (by simpa using hlt)]
      simp [putRow, mapBlock, Sort.ahead, Array.getElem?_modify, hh, onCells]
    have hsize : (Sort.putCells (Value.int .i64) o d.toArray cells).size = cells.size := by simp [Sort.putCells]
    refine ⟨.inr ⟨q, o, c, _, rfl, hg, hblk, by omega, by rw [hsize]; exact h2, by simp, fun j u hu => ?_⟩, ?_⟩
    · rw [List.getElem?_map] at hu
      obtain ⟨x, hx, rfl⟩ := Option.map_eq_some_iff.1 hu
      have hj : j < d.length := (List.getElem?_eq_some_iff.1 hx).1
      have hoj : o + j < cells.size := by omega
      have hdj : d.toArray[j]! = x := by
        have : d[j]? = some x := hx
        simp [this]
      simp only [Sort.putCells, Array.getElem?_mapIdx, Array.getElem?_eq_getElem hoj, Option.map_some]
      rw [if_pos ⟨by omega, by simp; omega⟩, Nat.add_sub_cancel_left, hdj]
    · rw [hw]
      refine ⟨rfl, rfl, rfl, by simp, fun k hk hne => ?_⟩
      rw [heap_grow_old _ _ (by simpa using hk)]
      simp [putRow, mapBlock, Sort.ahead, Array.getElem?_modify]
      intro e
      exact absurd e.symm hne

theorem Ks.holds {w : World} {P : Nat → Prop} {q o c : Nat} {L : List Int} (h : Ks w P (.slice (some ⟨q, o, none⟩) L.length c) L) : Sort.Holds (Value.int .i64) w q o L.toArray := by
  intro j hj
  have hj' : j < L.length := by simpa using hj
  refine ⟨?_, Row.frozen h j⟩
  refine Row.cell h j ?_
  rw [List.getElem?_map, List.getElem?_eq_getElem hj']
  simp [hj']


/-! ### A map of counts -/
theorem law : Keyed Try.prog 3 := int_keyed Try.underlying3
theorem plain3 {x : Int} (h : (Lit.int .i64 x).wf = true) : plainElem (H := Unit) Try.prog 3 (.int .i64 x) = some (.lit (.int .i64 x), []) := plainElem_int Try.underlying3 h
theorem wf64 {x : Int} (h0 : -9223372036854775808 ≤ x) (h1 : x ≤ 9223372036854775807) : (Lit.int .i64 x).wf = true := WalkArith.wf_i64 ⟨h0, h1⟩

/-- The map reads as how often each number is in a list. -/
structure Counts (D : DataW Unit) (is : List Int) : Prop where
  at_ : ∀ k, (Lit.int .i64 k).wf = true → D.atKey (.int .i64 k) (.lit (.int .i64 0)) = .lit (.int .i64 (is.count k : Nat))
  has_ : ∀ k, (Lit.int .i64 k).wf = true → (has D (.int .i64 k) = true ↔ k ∈ is)
  bd : ∀ k ∈ is, 0 ≤ k ∧ k ≤ 1472

/-- Block b is a map of counts. -/
def Ct (w : World) (b : Nat) (is : List Int) : Prop := ∃ (D : DataW Unit) (n : Nat), w.ownsMap Try.prog 3 (plainElem Try.prog 3) b n D ∧ n ≤ is.length ∧ Counts D is

theorem Ct.only {w w' : World} {b : Nat} {is : List Int} {S : Nat → Prop} (h : Ct w b is) (k : Only S w w') (hn : ¬ S b) : Ct w' b is := by
  obtain ⟨D, n, ⟨es, clock, hb, F, hs, hD⟩, hh⟩ := h
  exact ⟨D, n, ⟨es, clock, k.blk hb hn, F, hs, hD⟩, hh⟩

theorem Ct.lt {w : World} {b : Nat} {is : List Int} (h : Ct w b is) : b < w.heap.size := by
  obtain ⟨D, n, ho, _⟩ := h
  exact ho.lt

theorem Ct.ne {w : World} {g b : Nat} {is : List Int} {cs : Array Value} {t : TypeId} (h : Ct w b is) (hg : w.heap[g]? = some (.cells cs t (0, 0))) : g ≠ b := by
  rintro rfl
  obtain ⟨D, n, ⟨es, clock, hb, F, hs, hD⟩, hh⟩ := h
  rw [hb] at hg
  cases hg

theorem Ct.look {w : World} {b : Nat} {is : List Int} (h : Ct w b is) (k : Int) (hk : (Lit.int .i64 k).wf = true) (m : Nat) :
    (Instr.lookup 51 (.map (some b)) (.int .i64 k) false).run Try.prog (w.drewN m) = .ok (.int .i64 (is.count k : Nat)) (w.drewN m) := by
  obtain ⟨D, n, ho, _, hc⟩ := h
  have hz : ∀ W : World, (zeroValue 3).run Try.prog W = .ok (.int .i64 0) W := fun W => by kernel_rfl
  have ho' : (w.drewN m).ownsMap Try.prog 3 (plainElem Try.prog 3) b n D := ho
  obtain ⟨c, hr, hat, _⟩ := ho'.lookup_int law Try.underlying51 Try.underlying3 (hz _) (Maps.keyOf_int_mk Try.underlying3 hk)
  rw [hc.at_ k hk] at hat
  injection hat with hat
  injection hat with _ hat
  rw [hat]
  exact hr

theorem key_ne {k k' : Int} (h : k' ≠ k) : (Lit.int .i64 k') ≠ .int .i64 k := fun e => h (by injection e)

/-- More of one number. -/
theorem Counts.put {D : DataW Unit} {is : List Int} (h : Counts D is) (hm : IsMap D) (k : Int) (hk : 0 ≤ k ∧ k ≤ 1472) (c : Nat) (hc : 0 < c) : Counts (D.put (.int .i64 k) (.lit (.int .i64 ((is.count k : Nat) + (c : Nat) : Int)))) (is ++ List.replicate c k) := by
  have hwk : (Lit.int .i64 k).wf = true := wf64 (by omega) (by omega)
  have hkl : WideAt.IsKeyLit (.int .i64 k) := law.key (Maps.keyOf_int_mk Try.underlying3 hwk)
  refine ⟨fun j hj => ?_, fun j hj => ?_, fun j hj => ?_⟩
  · by_cases e : j = k
    · subst e
      rw [atKey_put_same hm hkl, List.count_append, List.count_replicate_self]
      simp
    · rw [atKey_put_other (key_ne e), h.at_ j hj, List.count_append, List.count_replicate]
      have : ¬ (k == j) = true := by simp; exact fun h => e h.symm
      rw [if_neg this]
      simp
  · rw [List.mem_append, List.mem_replicate]
    by_cases e : j = k
    · subst e
      have : has (D.put (.int .i64 j) (.lit (.int .i64 ((is.count j : Nat) + (c : Nat) : Int)))) (.int .i64 j) = true := has_true_of_atKey (y := .lit (.int .i64 ((is.count j : Nat) + (c : Nat) : Int))) (fun z => atKey_put_same hm hkl _ z)
      rw [this]
      simp
      exact .inr (by omega)
    · rw [show has (D.put (.int .i64 k) (.lit (.int .i64 ((is.count k : Nat) + (c : Nat) : Int)))) (.int .i64 j) = has D (.int .i64 j) from has_put_other (key_ne e) _, h.has_ j hj]
      constructor
      · exact .inl
      · rintro (h | h)
        · exact h
        · exact absurd h.2 e
  · rcases List.mem_append.1 hj with h1 | h1
    · exact h.bd j h1
    · rw [(List.mem_replicate.1 h1).2]
      exact hk

/-- A histogram: its block, its map, how many spans it has, by buckets. -/
structure HS (w : World) (g b : Nat) (is : List Int) : Prop where
  blk : w.heap[g]? = some (.cells #[.map (some b), .int .i64 (is.length : Nat)] 53 (0, 0))
  map : Ct w b is

theorem HS.only {w w' : World} {g b : Nat} {is : List Int} {S : Nat → Prop} (h : HS w g b is) (k : Only S w w') (hg : ¬ S g) (hb : ¬ S b) : HS w' g b is :=
  ⟨k.blk h.blk hg, h.map.only k hb⟩

end Go.Proofs.Ytognnjhphnhbfaa.Hi

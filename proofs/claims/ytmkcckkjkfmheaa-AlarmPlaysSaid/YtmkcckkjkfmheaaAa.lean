/- Aa: AlK, AlM, AlA, AlE, AlB, AlC in one text. -/
import Derived.Test.YtmkcckkjkfmheaaProg
import Derived.Test.YtmkcckkjkfmheaaBase
import Derived.WalkSpells
import Derived.Maps.OwnSet
import Derived.Maps.RangeWalk
import Derived.Maps.Ext
import Derived.DeepKeys4
import Derived.Test.YtmkcckkjkfmheaaWc
import Derived.WideKeyEntry
import Derived.StillTailTactics
import Derived.Deep.RegionHeld3
/- Alarm: names as keys; a map of names to numbers, and one of numbers to names, as lists. -/
set_option linter.unusedVariables false
set_option linter.unusedSimpArgs false
namespace Go.Proofs.Ytmkcckkjkfmheaa.Al
open Go.RowKit Go.Maps Go.Proofs.Ytmkcckkjkfmheaa.Base Go.Proofs.YtmkcckkjkfmheaaW.PrintWords Go.Proofs.YtmkcckkjkfmheaaW.PrintMore
attribute [local go_sem] max2_mx min2_mn max_two min_two max_three min_three max_four min_four

theorem lawN : Keyed Try.prog 33 := Keyed.of_law (deep_law_laid (m := 8) (by kernel_rfl) (by decide) (of_decide_eq_true (by kernel_rfl)) (by kernel_rfl) (by kernel_rfl))

/-- A name: node, incarnation, number; attempt; kind. -/
structure K5 where
  a : Int
  b : Int
  c : Int
  d : Int
  e : Int
deriving DecidableEq

def K5.v (k : K5) : Value := .agg #[.int .i64 k.a, .int .i64 k.b, .int .i64 k.c, .int .i64 k.d, .int .i64 k.e]
def K5.l (k : K5) : Lit := .string (keyBytes [.int .i64 k.a, .int .i64 k.b, .int .i64 k.c, .int .i64 k.d, .int .i64 k.e])
def K5.wf (k : K5) : Prop := (Lit.int .i64 k.a).wf = true ∧ (Lit.int .i64 k.b).wf = true ∧ (Lit.int .i64 k.c).wf = true ∧ (Lit.int .i64 k.d).wf = true ∧ (Lit.int .i64 k.e).wf = true

theorem isKey33 : Try.prog.keyType 33 = true := by kernel_rfl
theorem cells33 : Try.prog.cellsOf 33 = 5 := by kernel_rfl
theorem cells25 : Try.prog.cellsOf 25 = 4 := by kernel_rfl
theorem cells23 : Try.prog.cellsOf 23 = 3 := by kernel_rfl
theorem cells3 : Try.prog.cellsOf 3 = 1 := by kernel_rfl

theorem lits3 (n : Nat) (x : Int) (h : (Lit.int .i64 x).wf = true) : Try.prog.keyLits (n + 1) 3 [.int .i64 x] = some [.int .i64 x] := by
  simp only [Program.keyLits, Try.underlying3]
  simp [h]

theorem lits3_inv {n : Nat} {v : Value} {l : List Lit} (h : Try.prog.keyLits (n + 1) 3 [v] = some l) : ∃ x, v = .int .i64 x ∧ (Lit.int .i64 x).wf = true ∧ l = [.int .i64 x] := by
  simp only [Program.keyLits, Try.underlying3] at h
  split at h <;> simp_all

theorem lits23 (n : Nat) (v0 v1 v2 : Value) : Try.prog.keyLits (n + 1) 23 [v0, v1, v2] = (do
    let a ← Try.prog.keyLits n 3 [v0]
    let b ← Try.prog.keyLits n 3 [v1]
    let c ← Try.prog.keyLits n 3 [v2]
    pure (a ++ (b ++ (c ++ [])))) := by
  simp only [Program.keyLits, Try.underlying23]
  simp [ cells23, cells3, List.mapM_cons]
  cases Try.prog.keyLits n 3 [v0] <;> cases Try.prog.keyLits n 3 [v1] <;> cases Try.prog.keyLits n 3 [v2] <;> simp

theorem lits25 (n : Nat) (v0 v1 v2 v3 : Value) : Try.prog.keyLits (n + 1) 25 [v0, v1, v2, v3] = (do
    let a ← Try.prog.keyLits n 23 [v0, v1, v2]
    let b ← Try.prog.keyLits n 3 [v3]
    pure (a ++ (b ++ []))) := by
  simp only [Program.keyLits, Try.underlying25]
  simp [ cells25, cells23, cells3, List.mapM_cons]
  cases Try.prog.keyLits n 23 [v0, v1, v2] <;> cases Try.prog.keyLits n 3 [v3] <;> simp

theorem lits33 (n : Nat) (v0 v1 v2 v3 v4 : Value) : Try.prog.keyLits (n + 1) 33 [v0, v1, v2, v3, v4] = (do
    let a ← Try.prog.keyLits n 25 [v0, v1, v2, v3]
    let b ← Try.prog.keyLits n 3 [v4]
    pure (a ++ (b ++ []))) := by
  simp only [Program.keyLits, Try.underlying33]
  simp [ cells33, cells25, cells3, List.mapM_cons]
  cases Try.prog.keyLits n 25 [v0, v1, v2, v3] <;> cases Try.prog.keyLits n 3 [v4] <;> simp

theorem size4 : ∃ m, Try.prog.types.size + 1 = m + 1 + 1 + 1 + 1 := ⟨Try.prog.types.size - 3, by kernel_rfl⟩

set_option maxRecDepth 100000 in
theorem key_of (k : K5) (h : k.wf) : keyOf Try.prog 33 k.v = some k.l := by
  obtain ⟨h1, h2, h3, h4, h5⟩ := h
  obtain ⟨m, hm⟩ := size4
  unfold keyOf
  rw [Try.underlying33]
  simp only [isKey33, K5.v, Value.formed, Try.underlying33, cells33, hm, Value.cells, lits33, lits25, lits23, lits3 _ _ h1, lits3 _ _ h2, lits3 _ _ h3, lits3 _ _ h4, lits3 _ _ h5]
  simp [K5.l]

set_option maxRecDepth 100000 in
theorem key_inv {v : Value} {l : Lit} (h : keyOf Try.prog 33 v = some l) : ∃ k : K5, k.wf ∧ v = k.v ∧ l = k.l := by
  obtain ⟨m, hm⟩ := size4
  unfold keyOf at h
  rw [Try.underlying33] at h
  simp only [isKey33, Bool.true_and, hm] at h
  split at h
  · rename_i hf
    cases v with
    | agg cs =>
      simp only [Value.formed, Try.underlying33, cells33, beq_iff_eq] at hf
      obtain ⟨l'⟩ := cs
      match l', hf with
      | [v0, v1, v2, v3, v4], _ =>
        simp only [Value.cells, lits33, lits25, lits23] at h
        cases h0 : Try.prog.keyLits (m + 1) 3 [v0] with
        | none => simp [h0] at h
        | some a0 =>
        cases h1 : Try.prog.keyLits (m + 1) 3 [v1] with
        | none => simp [h0, h1] at h
        | some a1 =>
        cases h2 : Try.prog.keyLits (m + 1) 3 [v2] with
        | none => simp [h0, h1, h2] at h
        | some a2 =>
        cases h3 : Try.prog.keyLits (m + 1 + 1) 3 [v3] with
        | none => simp [h0, h1, h2, h3] at h
        | some a3 =>
        cases h4 : Try.prog.keyLits (m + 1 + 1 + 1) 3 [v4] with
        | none => simp [h0, h1, h2, h3, h4] at h
        | some a4 =>
          obtain ⟨x0, rfl, w0, rfl⟩ := lits3_inv h0
          obtain ⟨x1, rfl, w1, rfl⟩ := lits3_inv h1
          obtain ⟨x2, rfl, w2, rfl⟩ := lits3_inv h2
          obtain ⟨x3, rfl, w3, rfl⟩ := lits3_inv h3
          obtain ⟨x4, rfl, w4, rfl⟩ := lits3_inv h4
          simp [h0, h1, h2, h3, h4] at h
          exact ⟨⟨x0, x1, x2, x3, x4⟩, ⟨w0, w1, w2, w3, w4⟩, rfl, h.symm⟩
    | _ => simp [Value.formed, Try.underlying33] at hf
  · cases h

theorem K5.v_inj {k k' : K5} (h : k.v = k'.v) : k = k' := by
  simp [K5.v] at h
  obtain ⟨h1, h2, h3, h4, h5⟩ := h
  cases k; cases k'; simp_all

theorem K5.same {k k' : K5} (h : k.wf) (h' : k'.wf) : k.l.sameKey k'.l = decide (k = k') := by
  by_cases e : k = k'
  · subst e
    simp [WideAt.sameKey_self (lawN.key (key_of k h))]
  · have hne : k.l ≠ k'.l := fun e2 => e (K5.v_inj (lawN.inj (key_of k h) (e2 ▸ key_of k' h')))
    simp [sameKey_ne hne, e]

theorem one_key {α β : Type} {L : List (α × β)} (hn : (L.map Prod.fst).Nodup) {p q : α × β} (hp : p ∈ L) (hq : q ∈ L) (h : p.1 = q.1) : p = q := by
  induction L with
  | nil => cases hp
  | cons x L ih =>
    rw [List.map_cons, List.nodup_cons] at hn
    rcases List.mem_cons.1 hp with rfl | h1
    · rcases List.mem_cons.1 hq with rfl | h2
      · rfl
      · exact absurd (List.mem_map.2 ⟨q, h2, h.symm⟩) hn.1
    · rcases List.mem_cons.1 hq with rfl | h2
      · exact absurd (List.mem_map.2 ⟨p, h1, h⟩) hn.1
      · exact ih hn.2 h1 h2

/-! ### Any map of one's own as a list: over any keys and elements -/
section
variable {α β : Type} [DecidableEq α]

/-- Keys and elements as the map reads them. -/
structure Kit (α β : Type) [DecidableEq α] where
  kl : α → Lit
  kw : α → Prop
  dt : β → DataW Unit
  dw : β → Prop
  same : ∀ k k', kw k → kw k' → (kl k).sameKey (kl k') = decide (k = k')

variable (T : Kit α β)

def Kit.ent (p : α × β) : Lit × DataW Unit := (T.kl p.1, T.dt p.2)

/-- The map reads as this list, in whatever order. -/
structure Holds (D : DataW Unit) (L : List (α × β)) : Prop where
  es : ∃ es, D = .map es ∧ es.Perm (L.map T.ent)
  wf : ∀ p ∈ L, T.kw p.1 ∧ T.dw p.2
  nd : (L.map Prod.fst).Nodup

variable {T}

theorem Holds.empty : Holds T (.map []) [] := ⟨⟨[], rfl, .refl _⟩, by simp, by simp⟩

theorem Holds.perm {D : DataW Unit} {L L' : List (α × β)} (h : Holds T D L) (hp : L.Perm L') : Holds T D L' := by
  obtain ⟨es, hD, he⟩ := h.es
  exact ⟨⟨es, hD, he.trans (hp.map _)⟩, fun p hp' => h.wf p (hp.mem_iff.2 hp'), (hp.map _).nodup_iff.1 h.nd⟩

theorem Holds.size {D : DataW Unit} {L : List (α × β)} (h : Holds T D L) : Maps.size D = L.length := by
  obtain ⟨es, rfl, hp⟩ := h.es
  rw [size_eq, hp.length_eq, List.length_map]

theorem any_ent {L : List (α × β)} (h : ∀ p ∈ L, T.kw p.1 ∧ T.dw p.2) (k : α) (hk : T.kw k) : (L.map T.ent).any (fun p => p.1.sameKey (T.kl k)) = L.any (fun p => decide (p.1 = k)) := by
  rw [List.any_map]
  induction L with
  | nil => rfl
  | cons q L ih =>
    rw [List.any_cons, List.any_cons, ih (fun p hp => h p (List.mem_cons_of_mem _ hp))]
    simp only [Function.comp, Kit.ent]
    rw [T.same _ _ (h q (by simp)).1 hk]

theorem filter_ent {L : List (α × β)} (h : ∀ p ∈ L, T.kw p.1 ∧ T.dw p.2) (k : α) (hk : T.kw k) : (L.map T.ent).filter (ChangeMaps.notKey (T.kl k)) = (L.filter (fun p => decide (p.1 ≠ k))).map T.ent := by
  rw [List.filter_map]
  congr 1
  refine List.filter_congr fun q hq => ?_
  simp only [Function.comp, Kit.ent, ChangeMaps.notKey]
  rw [T.same _ _ (h q hq).1 hk]
  simp

theorem Holds.has {D : DataW Unit} {L : List (α × β)} (h : Holds T D L) (k : α) (hk : T.kw k) : Maps.has D (T.kl k) = L.any (fun p => decide (p.1 = k)) := by
  obtain ⟨es, rfl, hp⟩ := h.es
  rw [has_eq, hp.any_eq, any_ent h.wf k hk]

theorem Holds.at_ {D : DataW Unit} {L : List (α × β)} (h : Holds T D L) {p : α × β} (hp : p ∈ L) (z : DataW Unit) : D.atKey (T.kl p.1) z = T.dt p.2 := by
  have hw := (h.wf p hp).1
  obtain ⟨es, rfl, hpm⟩ := h.es
  unfold DataW.atKey
  have hm : T.ent p ∈ es := hpm.mem_iff.2 (List.mem_map.2 ⟨p, hp, rfl⟩)
  cases hf : es.find? (fun q => q.1.sameKey (T.kl p.1)) with
  | none =>
    have := List.find?_eq_none.1 hf _ hm
    simp only [Kit.ent] at this
    rw [T.same _ _ hw hw] at this
    simp at this
  | some q =>
    have hm2 := List.mem_of_find?_eq_some hf
    have hs := List.find?_some hf
    obtain ⟨q', hq', rfl⟩ := List.mem_map.1 (hpm.mem_iff.1 hm2)
    simp only [Kit.ent] at hs
    rw [T.same _ _ (h.wf q' hq').1 hw] at hs
    have := one_key h.nd hq' hp (of_decide_eq_true hs)
    subst this
    simp only [hf, Kit.ent]

theorem Holds.del {D : DataW Unit} {L : List (α × β)} (h : Holds T D L) (k : α) (hk : T.kw k) : Holds T (D.del (T.kl k)) (L.filter (fun p => decide (p.1 ≠ k))) := by
  obtain ⟨es, rfl, hp⟩ := h.es
  refine ⟨⟨_, DataW.del_eq _ _, ?_⟩, fun p hp => h.wf p (List.mem_filter.1 hp).1, h.nd.sublist ((List.filter_sublist).map _)⟩
  rw [← filter_ent h.wf k hk]
  exact hp.filter _

theorem Holds.put {D : DataW Unit} {L : List (α × β)} (h : Holds T D L) (k : α) (hk : T.kw k) (x : β) (hx : T.dw x) : Holds T (D.put (T.kl k) (T.dt x)) (L.filter (fun p => decide (p.1 ≠ k)) ++ [(k, x)]) := by
  obtain ⟨es, rfl, hp⟩ := h.es
  refine ⟨⟨_, DataW.put_eq _ _ _, ?_⟩, ?_, ?_⟩
  · have h1 := hp.filter (ChangeMaps.notKey (T.kl k))
    rw [filter_ent h.wf k hk] at h1
    refine (WideShapes.insert_perm _ _).trans ((h1.cons _).trans ?_)
    rw [List.map_append]
    exact List.perm_append_comm (l₁ := [T.ent (k, x)])
  · intro p hp
    rcases List.mem_append.1 hp with h1 | h1
    · exact h.wf p (List.mem_filter.1 h1).1
    · simp at h1
      subst h1
      exact ⟨hk, hx⟩
  · rw [List.map_append, List.nodup_append]
    refine ⟨h.nd.sublist ((List.filter_sublist).map _), by simp, fun a ha b hb => ?_⟩
    simp at hb
    subst hb
    obtain ⟨p, hp, rfl⟩ := List.mem_map.1 ha
    simpa using (List.mem_filter.1 hp).2
end

end Go.Proofs.Ytmkcckkjkfmheaa.Al

/- Alarm: its maps in the memory. -/
set_option linter.unusedVariables false
set_option linter.unusedSimpArgs false
namespace Go.Proofs.Ytmkcckkjkfmheaa.Al
open Go.RowKit Go.Maps Go.Proofs.Ytmkcckkjkfmheaa.Base Go.Proofs.YtmkcckkjkfmheaaW.PrintWords Go.Proofs.YtmkcckkjkfmheaaW.PrintMore
attribute [local go_sem] max2_mx min2_mn max_two min_two max_three min_three max_four min_four

theorem lawI : Keyed Try.prog 3 := int_keyed Try.underlying3
theorem keyI {x : Int} (h : (Lit.int .i64 x).wf = true) : keyOf Try.prog 3 (.int .i64 x) = some (.int .i64 x) := Maps.keyOf_int_mk Try.underlying3 h

theorem same_int {a b : Int} (ha : (Lit.int .i64 a).wf = true) (hb : (Lit.int .i64 b).wf = true) : (Lit.int .i64 a).sameKey (.int .i64 b) = decide (a = b) := by
  by_cases e : a = b
  · subst e
    simp [WideAt.sameKey_self (lawI.key (keyI ha))]
  · have hne : (Lit.int .i64 a) ≠ .int .i64 b := fun e2 => e (by injection e2)
    simp [sameKey_ne hne, e]

/-- From names to numbers. -/
def kitH : Kit K5 Int := ⟨K5.l, K5.wf, fun x => .lit (.int .i64 x), fun x => (Lit.int .i64 x).wf = true, fun _ _ h h' => K5.same h h'⟩

def datN (k : K5) : DataW Unit := .agg [.lit (.int .i64 k.a), .lit (.int .i64 k.b), .lit (.int .i64 k.c), .lit (.int .i64 k.d), .lit (.int .i64 k.e)]
/-- From numbers to names. -/
def kitN : Kit Int K5 := ⟨fun x => .int .i64 x, fun x => (Lit.int .i64 x).wf = true, datN, fun _ => True, fun _ _ h h' => same_int h h'⟩

/-- How a name reads. -/
def rdN : Value → Option (DataW Unit × List MemPlace)
  | .agg cs => match cs.toList with
    | [.int .i64 a, .int .i64 b, .int .i64 c, .int .i64 d, .int .i64 e] => some (datN ⟨a, b, c, d, e⟩, [])
    | _ => none
  | _ => none

theorem rdN_v (k : K5) : rdN k.v = some (datN k, []) := rfl

theorem rdN_inv {v : Value} {z : DataW Unit × List MemPlace} (h : rdN v = some z) : ∃ k : K5, v = k.v ∧ z = (datN k, []) := by
  unfold rdN at h
  split at h
  · rename_i cs
    split at h
    · rename_i a b c d e hcs
      injection h with h
      subst h
      refine ⟨⟨a, b, c, d, e⟩, ?_, rfl⟩
      unfold K5.v
      congr 1
      apply Array.toList_inj.1
      exact hcs
    · cases h
  · cases h

theorem datN_inj {k k' : K5} (h : datN k = datN k') : k = k' := by
  unfold datN at h
  simp at h
  obtain ⟨h1, h2, h3, h4, h5⟩ := h
  cases k; cases k'; simp_all

/-- Block b is a map from names to numbers that reads as this list. -/
def MH (w : World) (b : Nat) (L : List (K5 × Int)) : Prop := ∃ D : DataW Unit, w.ownsMap Try.prog 33 (plainElem Try.prog 3) b L.length D ∧ Holds kitH D L
/-- .. from numbers to names. -/
def MN (w : World) (b : Nat) (L : List (Int × K5)) : Prop := ∃ D : DataW Unit, w.ownsMap Try.prog 3 rdN b L.length D ∧ Holds kitN D L

section
variable {w w' : World} {b g : Nat} {S : Nat → Prop} {L : List (K5 × Int)} {M : List (Int × K5)}

theorem MH.tight {n : Nat} {D : DataW Unit} (h : w.ownsMap Try.prog 33 (plainElem Try.prog 3) b n D) (hh : Holds kitH D L) : MH w b L := by
  have hs := hh.size
  refine ⟨D, ?_, hh⟩
  obtain ⟨es, clock, hb, F, _, rfl⟩ := h
  rw [Maps.size, length_sorted] at hs
  exact ⟨es, clock, hb, F, by simpa using Nat.le_of_eq hs, rfl⟩
theorem MN.tight {n : Nat} {D : DataW Unit} (h : w.ownsMap Try.prog 3 rdN b n D) (hh : Holds kitN D M) : MN w b M := by
  have hs := hh.size
  refine ⟨D, ?_, hh⟩
  obtain ⟨es, clock, hb, F, _, rfl⟩ := h
  rw [Maps.size, length_sorted] at hs
  exact ⟨es, clock, hb, F, by simpa using Nat.le_of_eq hs, rfl⟩
theorem MH.only (h : MH w b L) (k : Only S w w') (hn : ¬ S b) : MH w' b L := by
  obtain ⟨D, ⟨es, clock, hb, F, hs, hD⟩, hh⟩ := h
  exact ⟨D, ⟨es, clock, k.blk hb hn, F, hs, hD⟩, hh⟩
theorem MN.only (h : MN w b M) (k : Only S w w') (hn : ¬ S b) : MN w' b M := by
  obtain ⟨D, ⟨es, clock, hb, F, hs, hD⟩, hh⟩ := h
  exact ⟨D, ⟨es, clock, k.blk hb hn, F, hs, hD⟩, hh⟩
theorem MH.lt (h : MH w b L) : b < w.heap.size := by obtain ⟨D, ho, _⟩ := h; exact ho.lt
theorem MN.lt (h : MN w b M) : b < w.heap.size := by obtain ⟨D, ho, _⟩ := h; exact ho.lt
theorem MH.isMap (h : MH w b L) : ∃ es c, w.heap[b]? = some (.map es c) := by obtain ⟨D, ⟨es, clock, hb, _⟩, _⟩ := h; exact ⟨es, clock, hb⟩
theorem MN.isMap (h : MN w b M) : ∃ es c, w.heap[b]? = some (.map es c) := by obtain ⟨D, ⟨es, clock, hb, _⟩, _⟩ := h; exact ⟨es, clock, hb⟩
theorem MH.perm {L' : List (K5 × Int)} (h : MH w b L) (hp : L.Perm L') : MH w b L' := by
  obtain ⟨D, ho, hh⟩ := h
  exact MH.tight ho (hh.perm hp)
theorem MN.perm {M' : List (Int × K5)} (h : MN w b M) (hp : M.Perm M') : MN w b M' := by
  obtain ⟨D, ho, hh⟩ := h
  exact MN.tight ho (hh.perm hp)
end

theorem zero3 (w : World) : (zeroValue 3).run Try.prog w = .ok (.int .i64 0) w := by kernel_rfl
theorem zero33 (w : World) : (zeroValue 33).run Try.prog w = .ok (K5.v ⟨0, 0, 0, 0, 0⟩) w := by kernel_rfl
theorem plain3 {x : Int} (h : (Lit.int .i64 x).wf = true) : plainElem (H := Unit) Try.prog 3 (.int .i64 x) = some (.lit (.int .i64 x), []) := plainElem_int Try.underlying3 h

set_option maxRecDepth 100000 in
theorem MH.look_ok {w : World} {b : Nat} {L : List (K5 × Int)} (h : MH w b L) (k : K5) (hk : k.wf) :
    (∃ x, (k, x) ∈ L ∧ (Instr.lookup 62 (.map (some b)) k.v true).run Try.prog w = .ok (.tuple #[.int .i64 x, .bool true]) w) ∨ ((∀ p ∈ L, p.1 ≠ k) ∧ (Instr.lookup 62 (.map (some b)) k.v true).run Try.prog w = .ok (.tuple #[.int .i64 0, .bool false]) w) := by
  obtain ⟨D, ho, hh⟩ := h
  obtain ⟨v, ps, hr, hv⟩ := ho.look_ok lawN Try.underlying62 (zero3 w) (plain3 (by decide)) (key_of k hk)
  have hhas := hh.has k hk
  change Maps.has D k.l = _ at hhas
  rw [hhas] at hr
  by_cases hm : ∃ p ∈ L, p.1 = k
  · obtain ⟨p, hp, rfl⟩ := hm
    left
    refine ⟨p.2, hp, ?_⟩
    have hat := hh.at_ hp (.lit (.int .i64 0))
    change D.atKey p.1.l _ = _ at hat
    rw [hat] at hv
    obtain ⟨x, rfl, hx, _⟩ := plainElem_int_inv Try.underlying3 hv
    have hx2 := congrArg Prod.fst hx
    simp only [kitH] at hx2
    injection hx2 with hx2
    injection hx2 with _ hx2
    rw [hr, List.any_eq_true.2 ⟨p, hp, by simp⟩, hx2]
  · right
    have hn : ∀ p ∈ L, p.1 ≠ k := fun p hp e => hm ⟨p, hp, e⟩
    refine ⟨hn, ?_⟩
    have hany : L.any (fun p => decide (p.1 = k)) = false := by
      rw [List.any_eq_false]
      intro p hp
      simpa using hn p hp
    rw [hany] at hr hhas
    rw [Maps.atKey_of_not_has hhas] at hv
    obtain ⟨x, rfl, hx, _⟩ := plainElem_int_inv Try.underlying3 hv
    have hx2 := congrArg Prod.fst hx
    injection hx2 with hx2
    injection hx2 with _ hx2
    rw [hr, ← hx2]

set_option maxRecDepth 100000 in
theorem MN.look {w : World} {b : Nat} {M : List (Int × K5)} (h : MN w b M) {p : Int × K5} (hp : p ∈ M) : (Instr.lookup 63 (.map (some b)) (.int .i64 p.1) false).run Try.prog w = .ok p.2.v w := by
  obtain ⟨D, ho, hh⟩ := h
  obtain ⟨v, ps, hr, hv⟩ := ho.lookup lawI Try.underlying63 (zero33 w) (rdN_v _) (keyI (hh.wf p hp).1)
  have hat := hh.at_ hp (datN ⟨0, 0, 0, 0, 0⟩)
  change D.atKey (.int .i64 p.1) _ = _ at hat
  rw [hat] at hv
  obtain ⟨k, rfl, hk⟩ := rdN_inv hv
  have := datN_inj (congrArg Prod.fst hk : datN p.2 = datN k)
  rw [this]
  exact hr

end Go.Proofs.Ytmkcckkjkfmheaa.Al

/- Alarm: alarms in the memory; Len, Grain. -/
set_option linter.unusedVariables false
set_option linter.unusedSimpArgs false
set_option maxRecDepth 100000
namespace Go.Proofs.Ytmkcckkjkfmheaa.Al
open Go.RowKit Go.Maps Go.Proofs.Ytmkcckkjkfmheaa.Base Go.Proofs.Ytmkcckkjkfmheaa.Rws Go.Proofs.Ytmkcckkjkfmheaa.Wh Go.Proofs.YtmkcckkjkfmheaaW.PrintWords Go.Proofs.YtmkcckkjkfmheaaW.PrintMore
attribute [local go_sem] max2_mx min2_mn max_two min_two max_three min_three max_four min_four

/-- An alarm: a name, a time, a handle. -/
structure En where
  n : K5
  t : Int
  h : Int
deriving DecidableEq

/-- 2 to a power. -/
def pw (G : Int) : Int := 2 ^ G.toNat
theorem pw_cases {G : Int} (h0 : 0 ≤ G) (h1 : G ≤ 6) : (G = 0 ∧ pw G = 1) ∨ (G = 1 ∧ pw G = 2) ∨ (G = 2 ∧ pw G = 4) ∨ (G = 3 ∧ pw G = 8) ∨ (G = 4 ∧ pw G = 16) ∨ (G = 5 ∧ pw G = 32) ∨ (G = 6 ∧ pw G = 64) := by
  have : G = 0 ∨ G = 1 ∨ G = 2 ∨ G = 3 ∨ G = 4 ∨ G = 5 ∨ G = 6 := by omega
  rcases this with rfl | rfl | rfl | rfl | rfl | rfl | rfl <;> simp [pw]
theorem pw_wrap {G : Int} (h0 : 0 ≤ G) (h1 : G ≤ 6) : wrap64 (2 ^ G.toNat) = pw G := by
  have : G = 0 ∨ G = 1 ∨ G = 2 ∨ G = 3 ∨ G = 4 ∨ G = 5 ∨ G = 6 := by omega
  rcases this with rfl | rfl | rfl | rfl | rfl | rfl | rfl <;> exact IntWalk.wrap64_in _ (by decide)
/-- The slot of a time. -/
def sl (G t : Int) : Int := (t + pw G - 1) / pw G

def En.nh (e : En) : K5 × Int := (e.n, e.h)
def En.hn (e : En) : Int × K5 := (e.h, e.n)
def En.nt (e : En) : K5 × Int := (e.n, e.t)
def En.sh (G : Int) (e : En) : Int × Int := (sl G e.t, e.h)

/-- The three maps and the cells of alarms. -/
structure MS (w : World) (p gw bh bn bt : Nat) (G : Int) (A : List En) : Prop where
  blk : w.heap[p]? = some (.cells #[.pointer (some ⟨gw, 0, none⟩), .int .i64 G, .map (some bh), .map (some bn), .map (some bt)] 65 (0, 0))
  mh : MH w bh (A.map En.nh)
  mn : MN w bn (A.map En.hn)
  mt : MH w bt (A.map En.nt)
  g : 0 ≤ G ∧ G ≤ 6
  d : bh ≠ bn ∧ bh ≠ bt ∧ bn ≠ bt

section
variable {w w' : World} {p gw bh bn bt : Nat} {G : Int} {A : List En} {S : Nat → Prop}

theorem MS.ne (h : MS w p gw bh bn bt G A) : p ≠ bh ∧ p ≠ bn ∧ p ≠ bt := by
  have hb := h.blk
  refine ⟨fun e => ?_, fun e => ?_, fun e => ?_⟩
  · obtain ⟨es, c, h1⟩ := h.mh.isMap
    rw [e, h1] at hb; cases hb
  · obtain ⟨es, c, h1⟩ := h.mn.isMap
    rw [e, h1] at hb; cases hb
  · obtain ⟨es, c, h1⟩ := h.mt.isMap
    rw [e, h1] at hb; cases hb

theorem MS.only (h : MS w p gw bh bn bt G A) (k : Only S w w') (h0 : ¬ S p) (h1 : ¬ S bh) (h2 : ¬ S bn) (h3 : ¬ S bt) : MS w' p gw bh bn bt G A :=
  ⟨k.blk h.blk h0, h.mh.only k h1, h.mn.only k h2, h.mt.only k h3, h.g, h.d⟩

theorem MS.c0 (h : MS w p gw bh bn bt G A) : w.cell? ⟨p, 0, none⟩ = some (.pointer (some ⟨gw, 0, none⟩)) := cell_at h.blk 0 rfl
theorem MS.c1 (h : MS w p gw bh bn bt G A) : w.cell? ⟨p, 1, none⟩ = some (.int .i64 G) := cell_at h.blk 1 rfl
theorem MS.c2 (h : MS w p gw bh bn bt G A) : w.cell? ⟨p, 2, none⟩ = some (.map (some bh)) := cell_at h.blk 2 rfl
theorem MS.c3 (h : MS w p gw bh bn bt G A) : w.cell? ⟨p, 3, none⟩ = some (.map (some bn)) := cell_at h.blk 3 rfl
theorem MS.c4 (h : MS w p gw bh bn bt G A) : w.cell? ⟨p, 4, none⟩ = some (.map (some bt)) := cell_at h.blk 4 rfl

theorem MH.len {b : Nat} {L : List (K5 × Int)} (h : MH w b L) (ty : TypeId) : (Builtin.len_ #[62] ty #[.map (some b)]).run Try.prog w = .ok (.int .i64 (L.length : Nat)) w := by
  obtain ⟨D, ho, hh⟩ := h
  rw [← hh.size]
  exact ho.len Try.underlying62 ty
end

theorem none_a {w : World} {p gw bh bn bt : Nat} {G : Int} {A : List En} (h : MS w p gw bh bn bt G A) : Calls Try.prog 25 #[.pointer (some ⟨p, 0, none⟩)] w fun e w' => e = .returned (.bool false) ∧ w = w' := by
  have h0 := h.c0
  go_enter Try.func25, Try.ntmps25
  go_wp2
  go_ret
  exact ⟨rfl, rfl⟩

theorem none_z {w : World} {p : Nat} (h0 : w.cell? ⟨p, 0, none⟩ = some (.pointer none)) : Calls Try.prog 25 #[.pointer (some ⟨p, 0, none⟩)] w fun e w' => e = .returned (.bool true) ∧ w = w' := by
  go_enter Try.func25, Try.ntmps25
  go_wp2
  go_ret
  exact ⟨rfl, rfl⟩

theorem none_n (w : World) : Calls Try.prog 25 #[.pointer none] w fun e w' => e = .returned (.bool true) ∧ w = w' := by
  go_enter Try.func25, Try.ntmps25
  go_wp2
  go_ret
  exact ⟨rfl, rfl⟩

theorem len_a {w : World} {p gw bh bn bt : Nat} {G : Int} {A : List En} (h : MS w p gw bh bn bt G A) : Calls Try.prog 12 #[.pointer (some ⟨p, 0, none⟩)] w fun e w' => e = .returned (.int .i64 (A.length : Nat)) ∧ w = w' := by
  have h2 := h.c2
  have hl := h.mh.len 3
  rw [List.length_map] at hl
  have H := Lib.hid h
  clear h
  go_enter Try.func12, Try.ntmps12
  go_wp2_with (go_at_call 25; refine (none_a H.out).mono ?_; rintro e w' ⟨rfl, rfl⟩)
  go_ret
  exact ⟨rfl, rfl⟩

theorem grain_a {w : World} {p gw bh bn bt : Nat} {G : Int} {A : List En} (h : MS w p gw bh bn bt G A) : Calls Try.prog 9 #[.pointer (some ⟨p, 0, none⟩)] w fun e w' => e = .returned (.int .i64 (pw G)) ∧ w = w' := by
  have h1 := h.c1
  have H := Lib.hid h
  have hg0 := h.g.1
  have hg1 := h.g.2
  clear h
  go_enter Try.func9, Try.ntmps9
  go_wp2_with (go_at_call 25; refine (none_a H.out).mono ?_; rintro e w' ⟨rfl, rfl⟩)
  go_ret
  refine ⟨?_, rfl⟩
  have hw : wrap64 (2 ^ G.toNat) = pw G := pw_wrap hg0 hg1
  show Ending.returned (Value.int .i64 (wrap64 (2 ^ G.toNat))) = _
  rw [hw]

end Go.Proofs.Ytmkcckkjkfmheaa.Al

/- Alarm: an entry of a map made ready, and then written; its entries, put and taken away, as lists. -/
set_option linter.unusedVariables false
set_option linter.unusedSimpArgs false
set_option maxRecDepth 100000
namespace Go.Proofs.Ytmkcckkjkfmheaa.Al
open Go.RowKit Go.Maps Go.MapKept Go.ChangeMaps Go.WideShapes Go.ChangeShapes Go.Proofs.Ytmkcckkjkfmheaa.Base Go.Proofs.YtmkcckkjkfmheaaW.PrintWords Go.Proofs.YtmkcckkjkfmheaaW.PrintMore

section
variable {P : Program} {w : World} {t k e : TypeId} {R : Value → Option (DataW Unit × List MemPlace)} {b n : Nat} {D : DataW Unit}

theorem entry_runs (K : Keyed P k) (ht : P.underlying t = some (.map k e)) {z : Value} (hz : ∀ u : World, (zeroValue e).run P u = .ok z u) (ho : w.ownsMap P k R b n D) {key : Value} {kl : Lit} (hkey : keyOf P k key = some kl) (val : Value) :
    ∃ (v0 : Value) (st : Nat) (w1 w2 : World), (Instr.mapEntry t (.map (some b)) key).run P w = .ok (.tuple #[v0, goInt st]) w1 ∧ (Instr.entryStore t (.map (some b)) (goInt st) val).run P w1 = .ok () w2 ∧ (Instr.mapUpdate t (.map (some b)) key val).run P w = .ok () w2 ∧ Only (fun i => i = b) w w1 := by
  obtain ⟨es, clock, hb, F, _, _⟩ := ho
  obtain ⟨s1, s2, _⟩ := F.stamped
  have hkeys : ∀ x ∈ es.toList, ∃ l, keyOf P k x.key = some l := fun x hx => by
    obtain ⟨y, hy⟩ := F.reads x hx
    exact ⟨_, WideElems.rd_key hy⟩
  have hlt : b < w.heap.size := blk_lt hb
  have hset : ∀ o : Obj, Only (fun i => i = b) w (setBlock w b o) := fun o => ⟨rfl, rfl, rfl, by simp [setBlock], fun i _ hi => heap_setBlock_other hb _ hi⟩
  have htwice : ∀ o o' : Obj, setBlock (setBlock w b o) b o' = setBlock w b o' := fun o o' => by simp [setBlock]
  rcases K.find w hkey es.toList hkeys with ⟨f, hno⟩ | ⟨j, e0, f, hj, hke⟩
  · have hb1 := heap_setBlock_same hb (.map (es.push ⟨key, z, clock⟩) (clock + 1))
    have hidx : (es.push ⟨key, z, clock⟩).findIdx? (fun e => ((e.born : Nat) : Int) == ((clock : Nat) : Int)) = some es.size := by
      rw [WideElems.findIdx_arr]
      refine WideElems.findIdx_born (l := (es.push ⟨key, z, clock⟩).toList) (j := es.size) (e0 := ⟨key, z, clock⟩) ?_ (by simp)
      rw [Array.toList_push, List.map_append]
      refine List.nodup_append.2 ⟨s2, by simp, fun a ha c hc e1 => ?_⟩
      obtain ⟨x, hx, rfl⟩ := List.mem_map.1 ha
      have h1 := s1 x hx
      have h2 : c = clock := by simpa using hc
      omega
    have hmod : (es.push ⟨key, z, clock⟩).modify es.size (fun e => { e with val := val }) = es.push ⟨key, val, clock⟩ := by
      apply Array.ext'
      rw [Array.toList_modify, Array.toList_push, Array.toList_push, ← Array.length_toList, WideElems.modify_last]
    refine ⟨z, clock, setBlock w b (.map (es.push ⟨key, z, clock⟩) (clock + 1)), setBlock w b (.map (es.push ⟨key, val, clock⟩) (clock + 1)), ?_, ?_, ?_, hset _⟩
    · simp [Instr.mapEntry, run_underlying ht, MapKept.run_getObj_map hb, K.check w false hkey, f, hz, MapKept.run_setObj_map _ hb, Result.andThen, setBlock]
    · refine Eq.trans ?_ (congrArg (Result.ok ()) (htwice (.map (es.push ⟨key, z, clock⟩) (clock + 1)) _))
      simp [Instr.entryStore, MapKept.run_getObj_map hb1, asInt, asIntOf, goInt, hidx, hmod, MapKept.run_setObj_map _ hb1, Result.andThen]
      rfl
    · simp [Instr.mapUpdate, run_underlying ht, MapKept.run_getObj_map hb, K.check w false hkey, f, MapKept.run_setObj_map _ hb, Result.andThen]
      rfl
  · have hj' : es[j]? = some e0 := by simpa using hj
    have hsame : es.modify j (fun e => { e with key := key }) = es := by
      apply Array.ext'
      rw [Array.toList_modify, ChangeMaps.modify_eq_set _ _ _ _ hj]
      have : ({ e0 with key := key } : MapEntry) = e0 := by rw [← hke]
      rw [this]
      exact WideElems.set_self _ _ _ hj
    have hb1 := heap_setBlock_same hb (.map es clock)
    have hidx : es.findIdx? (fun e => ((e.born : Nat) : Int) == ((e0.born : Nat) : Int)) = some j := by
      rw [WideElems.findIdx_arr]
      exact WideElems.findIdx_born s2 hj
    have hmod : es.modify j (fun e => { e with val := val }) = es.modify j (fun e' => { e' with key := key, val := val }) := by
      apply Array.ext'
      rw [Array.toList_modify, Array.toList_modify, ChangeMaps.modify_eq_set _ _ _ _ hj, ChangeMaps.modify_eq_set _ _ _ _ hj, ← hke]
    refine ⟨e0.val, e0.born, setBlock w b (.map es clock), setBlock w b (.map (es.modify j (fun e' => { e' with key := key, val := val })) clock), ?_, ?_, ?_, hset _⟩
    · simp [Instr.mapEntry, run_underlying ht, MapKept.run_getObj_map hb, K.check w false hkey, f, hj', hke, K.stays w hkey, hsame, MapKept.run_setObj_map _ hb, Result.andThen, setBlock]
    · refine Eq.trans ?_ (congrArg (Result.ok ()) (htwice (.map es clock) _))
      simp [Instr.entryStore, MapKept.run_getObj_map hb1, asInt, asIntOf, goInt, hidx, hmod, MapKept.run_setObj_map _ hb1, Result.andThen]
      rfl
    · simp [Instr.mapUpdate, run_underlying ht, MapKept.run_getObj_map hb, K.check w false hkey, f, hj', hke, K.stays w hkey, MapKept.run_setObj_map _ hb, Result.andThen]
      rfl
end

section
variable {w : World} {b : Nat} {L : List (K5 × Int)} {M : List (Int × K5)}

theorem grown_only {w w' : World} {b : Nat} (h : w.grownBy w' (some b)) : Only (fun i => i = b) w w' := (Only.refl (fun i => i = b) w).grown h (fun k hk => .inl (by simpa using hk.symm))

theorem MH.put (h : MH w b L) (hl : L.length < 100000) (k : K5) (hk : k.wf) (x : Int) (hx : (Lit.int .i64 x).wf = true) :
    ∃ (v0 : Value) (st : Nat) (w1 w2 : World), (Instr.mapEntry 62 (.map (some b)) k.v).run Try.prog w = .ok (.tuple #[v0, goInt st]) w1 ∧ (Instr.entryStore 62 (.map (some b)) (goInt st) (.int .i64 x)).run Try.prog w1 = .ok () w2 ∧
      MH w2 b (L.filter (fun p => decide (p.1 ≠ k)) ++ [(k, x)]) ∧ Only (fun i => i = b) w w2 ∧ Only (fun i => i = b) w w1 := by
  obtain ⟨D, ho, hh⟩ := h
  obtain ⟨v0, st, w1, w2, h1, h2, h3, h7⟩ := entry_runs lawN Try.underlying62 zero3 ho (key_of k hk) (.int .i64 x)
  obtain ⟨w3, h4, h5, h6⟩ := ho.update lawN Try.underlying62 (by have : maxLen = 9223372036854775807 := rfl; omega) (key_of k hk) (plain3 hx)
  rw [h3] at h4
  injection h4 with _ h4
  subst h4
  exact ⟨v0, st, w1, w2, h1, h2, MH.tight h5 (hh.put k hk x hx), grown_only h6, h7⟩

theorem MN.put (h : MN w b M) (hl : M.length < 100000) (x : Int) (hx : (Lit.int .i64 x).wf = true) (k : K5) :
    ∃ (v0 : Value) (st : Nat) (w1 w2 : World), (Instr.mapEntry 63 (.map (some b)) (.int .i64 x)).run Try.prog w = .ok (.tuple #[v0, goInt st]) w1 ∧ (Instr.entryStore 63 (.map (some b)) (goInt st) k.v).run Try.prog w1 = .ok () w2 ∧
      MN w2 b (M.filter (fun p => decide (p.1 ≠ x)) ++ [(x, k)]) ∧ Only (fun i => i = b) w w2 ∧ Only (fun i => i = b) w w1 := by
  obtain ⟨D, ho, hh⟩ := h
  obtain ⟨v0, st, w1, w2, h1, h2, h3, h7⟩ := entry_runs lawI Try.underlying63 zero33 ho (keyI hx) k.v
  obtain ⟨w3, h4, h5, h6⟩ := ho.update lawI Try.underlying63 (by have : maxLen = 9223372036854775807 := rfl; omega) (keyI hx) (rdN_v k)
  rw [h3] at h4
  injection h4 with _ h4
  subst h4
  exact ⟨v0, st, w1, w2, h1, h2, MN.tight h5 (hh.put x hx k trivial), grown_only h6, h7⟩

theorem MH.del (h : MH w b L) (k : K5) (hk : k.wf) (ty : TypeId) : ∃ w1, (Builtin.delete_ #[62, 33] ty #[.map (some b), k.v]).run Try.prog w = .ok (.tuple #[]) w1 ∧ MH w1 b (L.filter (fun p => decide (p.1 ≠ k))) ∧ Only (fun i => i = b) w w1 := by
  obtain ⟨D, ho, hh⟩ := h
  obtain ⟨w1, h1, h2, h3⟩ := ho.drop lawN Try.underlying62 (key_of k hk) ty
  exact ⟨w1, h1, MH.tight h2 (hh.del k hk), grown_only h3.grown⟩

theorem MN.del (h : MN w b M) (x : Int) (hx : (Lit.int .i64 x).wf = true) (ty : TypeId) : ∃ w1, (Builtin.delete_ #[63, 3] ty #[.map (some b), .int .i64 x]).run Try.prog w = .ok (.tuple #[]) w1 ∧ MN w1 b (M.filter (fun p => decide (p.1 ≠ x))) ∧ Only (fun i => i = b) w w1 := by
  obtain ⟨D, ho, hh⟩ := h
  obtain ⟨w1, h1, h2, h3⟩ := ho.drop lawI Try.underlying63 (keyI hx) ty
  exact ⟨w1, h1, MN.tight h2 (hh.del x hx), grown_only h3.grown⟩

theorem MH.new (w : World) : MH (w.alloc (.map #[] 0)) w.heap.size [] := ⟨_, World.ownsMap_made w _ _ _, Holds.empty⟩
theorem MN.new (w : World) : MN (w.alloc (.map #[] 0)) w.heap.size [] := ⟨_, World.ownsMap_made w _ _ _, Holds.empty⟩
end

end Go.Proofs.Ytmkcckkjkfmheaa.Al

/- Alarm: New, Time, forget. -/
set_option linter.unusedVariables false
set_option linter.unusedSimpArgs false
set_option maxRecDepth 100000
namespace Go.Proofs.Ytmkcckkjkfmheaa.Al
open Go.RowKit Go.Maps Go.Proofs.Ytmkcckkjkfmheaa.Base Go.Proofs.Ytmkcckkjkfmheaa.Rws Go.Proofs.Ytmkcckkjkfmheaa.Wh Go.Proofs.YtmkcckkjkfmheaaW.PrintWords Go.Proofs.YtmkcckkjkfmheaaW.PrintMore
attribute [local go_sem] max2_mx min2_mn max_two min_two max_three min_three max_four min_four

/-- Alarms at p, own blocks F: the grain's power, the wheel's time, the last handle, the alarms (in whatever order). -/
def AH (w : World) (p : Nat) (F : Nat → Prop) (G n last : Int) (A : List En) : Prop :=
  ∃ gw bh bn bt FW, MS w p gw bh bn bt G A ∧ WH w gw FW n last (A.map (En.sh G)) ∧ (¬ FW p ∧ ¬ FW bh ∧ ¬ FW bn ∧ ¬ FW bt) ∧ (∀ k, F k ↔ (k = p ∨ k = bh ∨ k = bn ∨ k = bt ∨ FW k))

theorem AH.only {w w' : World} {p : Nat} {F S : Nat → Prop} {G n last : Int} {A : List En} (h : AH w p F G n last A) (k : Only S w w') (hn : ∀ i, F i → ¬ S i) : AH w' p F G n last A := by
  obtain ⟨gw, bh, bn, bt, FW, hm, hw, hf, hF⟩ := h
  exact ⟨gw, bh, bn, bt, FW, hm.only k (hn _ ((hF _).2 (.inl rfl))) (hn _ ((hF _).2 (.inr (.inl rfl)))) (hn _ ((hF _).2 (.inr (.inr (.inl rfl))))) (hn _ ((hF _).2 (.inr (.inr (.inr (.inl rfl)))))),
    hw.only k (fun i hi => hn _ ((hF _).2 (.inr (.inr (.inr (.inr hi)))))), hf, hF⟩

theorem AH.flt {w : World} {p : Nat} {F : Nat → Prop} {G n last : Int} {A : List En} (h : AH w p F G n last A) (k : Nat) (hk : F k) : k < w.heap.size := by
  obtain ⟨gw, bh, bn, bt, FW, hm, hw, hf, hF⟩ := h
  rcases (hF k).1 hk with rfl | rfl | rfl | rfl | h1
  · exact blk_lt hm.blk
  · exact hm.mh.lt
  · exact hm.mn.lt
  · exact hm.mt.lt
  · exact hw.flt k h1

theorem AH.len {w : World} {p : Nat} {F : Nat → Prop} {G n last : Int} {A : List En} (h : AH w p F G n last A) : Calls Try.prog 12 #[.pointer (some ⟨p, 0, none⟩)] w fun e w' => e = .returned (.int .i64 (A.length : Nat)) ∧ w = w' := by
  obtain ⟨gw, bh, bn, bt, FW, hm, hw, hf, hF⟩ := h
  exact len_a hm

theorem AH.grain {w : World} {p : Nat} {F : Nat → Prop} {G n last : Int} {A : List En} (h : AH w p F G n last A) : Calls Try.prog 9 #[.pointer (some ⟨p, 0, none⟩)] w fun e w' => e = .returned (.int .i64 (pw G)) ∧ w = w' := by
  obtain ⟨gw, bh, bn, bt, FW, hm, hw, hf, hF⟩ := h
  exact grain_a hm

/-- The power that is taken for a number. -/
def clg (x : Int) : Int := mn (mx x 0) 6

theorem clg_bd (x : Int) : 0 ≤ clg x ∧ clg x ≤ 6 := by unfold clg mn mx; split <;> split <;> omega

theorem new_a (x : Int) (w : World) : Calls Try.prog 8 #[.int .i64 x] w fun e w' => ∃ p F, e = .returned (.pointer (some ⟨p, 0, none⟩)) ∧ AH w' p F (clg x) 0 0 [] ∧ (∀ k, F k → w.heap.size ≤ k) ∧ Only (fun _ => False) w w' := by
  obtain ⟨G, hG⟩ : ∃ G, G = clg x := ⟨_, rfl⟩
  have hGb := clg_bd x
  rw [← hG] at hGb ⊢
  have hG2 : mn (mx x 0) 6 = G := hG.symm
  have HGB := Lib.hid hGb
  have HN := Lib.hid (wh_new 0)
  clear hG hGb
  go_enter Try.func8, Try.ntmps8
  go_wp2_with fail
  go_at_call 24
  refine (HN.out _).mono ?_
  rintro e w1 ⟨gw, FW, rfl, hw1, hf1, ho1⟩
  obtain ⟨w2, hw2⟩ : ∃ w2, w2 = w1.alloc (.map #[] 0) := ⟨_, rfl⟩
  obtain ⟨w3, hw3⟩ : ∃ w3, w3 = w2.alloc (.map #[] 0) := ⟨_, rfl⟩
  obtain ⟨w4, hw4⟩ : ∃ w4, w4 = w3.alloc (.map #[] 0) := ⟨_, rfl⟩
  have s2 : w2.heap.size = w1.heap.size + 1 := by rw [hw2]; show (w1.heap.push _).size = _; simp
  have s3 : w3.heap.size = w1.heap.size + 1 + 1 := by rw [hw3]; show (w2.heap.push _).size = _; rw [Array.size_push, s2]
  have s4 : w4.heap.size = w1.heap.size + 1 + 1 + 1 := by rw [hw4]; show (w3.heap.push _).size = _; rw [Array.size_push, s3]
  have m1 : (Instr.makeMap 62 none).run Try.prog w1 = .ok (.map (some w1.heap.size)) w2 := by rw [hw2]; exact run_makeMap _ _
  have m2 : (Instr.makeMap 63 none).run Try.prog w2 = .ok (.map (some (w1.heap.size + 1))) w3 := by rw [hw3, ← s2]; exact run_makeMap _ _
  have m3 : (Instr.makeMap 62 none).run Try.prog w3 = .ok (.map (some (w1.heap.size + 1 + 1))) w4 := by rw [hw4, ← s3]; exact run_makeMap _ _
  have HBU : Hid (Try.prog.built 65 [(0, .pointer (some ⟨gw, 0, none⟩)), (1, .int .i64 G), (2, .map (some w1.heap.size)), (3, .map (some (w1.heap.size + 1))), (4, .map (some (w1.heap.size + 1 + 1)))] = some #[.pointer (some ⟨gw, 0, none⟩), .int .i64 G, .map (some w1.heap.size), .map (some (w1.heap.size + 1)), .map (some (w1.heap.size + 1 + 1))]) := Lib.hid (by kernel_rfl)
  have b1 : MH w2 w1.heap.size [] := by rw [hw2]; exact MH.new w1
  have b2 : MN w3 (w1.heap.size + 1) [] := by rw [hw3, ← s2]; exact MN.new w2
  have b3 : MH w4 (w1.heap.size + 1 + 1) [] := by rw [hw4, ← s3]; exact MH.new w3
  have o2 : Only (fun _ => False) w1 w2 := by rw [hw2]; exact (Only.refl _ w1).alloc _
  have o3 : Only (fun _ => False) w2 w3 := by rw [hw3]; exact (Only.refl _ w2).alloc _
  have o4 : Only (fun _ => False) w3 w4 := by rw [hw4]; exact (Only.refl _ w3).alloc _
  have HFI : Hid (∀ cs : Array Value, (∀ k, FW k → w.heap.size ≤ k ∧ k < w1.heap.size) ∧ MH (w4.alloc (.cells cs 65)) w1.heap.size [] ∧ MN (w4.alloc (.cells cs 65)) (w1.heap.size + 1) [] ∧ MH (w4.alloc (.cells cs 65)) (w1.heap.size + 1 + 1) [] ∧ WH (w4.alloc (.cells cs 65)) gw FW 0 0 [] ∧ Only (fun _ => False) w (w4.alloc (.cells cs 65)) ∧ (w4.alloc (.cells cs 65)).heap[w1.heap.size + 1 + 1 + 1]? = some (.cells cs 65 (0, 0)) ∧ w.heap.size ≤ w1.heap.size) := Lib.hid (fun cs => by
    have o5 : Only (fun _ => False) w4 (w4.alloc (.cells cs 65)) := (Only.refl _ w4).alloc _
    refine ⟨fun k hk => ⟨hf1 k hk, hw1.flt k hk⟩, ((b1.only o3 (fun h => h)).only o4 (fun h => h)).only o5 (fun h => h), (b2.only o4 (fun h => h)).only o5 (fun h => h), b3.only o5 (fun h => h), (((hw1.only o2 (fun _ _ h => h)).only o3 (fun _ _ h => h)).only o4 (fun _ _ h => h)).only o5 (fun _ _ h => h), (((ho1.trans o2).trans o3).trans o4).trans o5, ?_, ho1.size⟩
    rw [← s4]
    exact heap_alloc_new w4 _)
  have S4 := Lib.hid s4
  clear hw1 hf1 ho1 hw2 hw3 hw4 s2 s3 s4 b1 b2 b3 o2 o3 o4
  go_wp2_with (refine Go.wpList_buildTo rfl 65 #[(0, .tmp 6), (1, .tmp 7), (2, .tmp 8), (3, .tmp 9), (4, .tmp 10)] rfl (some 11) rfl #[.pointer (some ⟨gw, 0, none⟩), .int .i64 G, .map (some w1.heap.size), .map (some (w1.heap.size + 1)), .map (some (w1.heap.size + 1 + 1))] (Eq.trans (congrArg (fun l => Try.prog.built 65 l) (by kernel_rfl)) HBU.out) ?_)
  go_ret
  have h := HFI.out #[.pointer (some ⟨gw, 0, none⟩), .int .i64 G, .map (some w1.heap.size), .map (some (w1.heap.size + 1)), .map (some (w1.heap.size + 1 + 1))]
  have hs := S4.out
  obtain ⟨hF, h1, h2, h3, h4, h5, h6, h7⟩ := h
  refine ⟨w4.heap.size, fun k => k = w4.heap.size ∨ k = w1.heap.size ∨ k = w1.heap.size + 1 ∨ k = w1.heap.size + 1 + 1 ∨ FW k, rfl, ⟨gw, w1.heap.size, w1.heap.size + 1, w1.heap.size + 1 + 1, FW, ⟨by rw [hs]; exact h6, h1, h2, h3, HGB.out, by omega⟩, h4, ⟨fun h => ?_, fun h => ?_, fun h => ?_, fun h => ?_⟩, fun k => Iff.rfl⟩, fun k hk => ?_, h5⟩
  · have := hF _ h; omega
  · have := hF _ h; omega
  · have := hF _ h; omega
  · have := hF _ h; omega
  · rcases hk with rfl | rfl | rfl | rfl | h
    · omega
    · omega
    · omega
    · omega
    · exact (hF _ h).1
end Go.Proofs.Ytmkcckkjkfmheaa.Al

/- Alarm: Time, forget. -/
set_option linter.unusedVariables false
set_option linter.unusedSimpArgs false
set_option maxRecDepth 100000
namespace Go.Proofs.Ytmkcckkjkfmheaa.Al
open Go.RowKit Go.Maps Go.Proofs.Ytmkcckkjkfmheaa.Base Go.Proofs.Ytmkcckkjkfmheaa.Rws Go.Proofs.Ytmkcckkjkfmheaa.Wh Go.Proofs.YtmkcckkjkfmheaaW.PrintWords Go.Proofs.YtmkcckkjkfmheaaW.PrintMore
attribute [local go_sem] max2_mx min2_mn max_two min_two max_three min_three max_four min_four

/-- A name in a cell of one's own. -/
def boxN (k : K5) : Obj := .cells #[.int .i64 k.a, .int .i64 k.b, .int .i64 k.c, .int .i64 k.d, .int .i64 k.e] 33

/-- What a lookup gives. -/
def timeOf (A : List En) (k : K5) : Int × Bool := match A.find? (fun e => decide (e.n = k)) with
  | some e => (e.t, true)
  | none => (0, false)
def handOf (A : List En) (k : K5) : Int × Bool := match A.find? (fun e => decide (e.n = k)) with
  | some e => (e.h, true)
  | none => (0, false)

theorem find_none {A : List En} {k : K5} (h : ∀ e ∈ A, e.n ≠ k) : A.find? (fun e => decide (e.n = k)) = none := by
  rw [List.find?_eq_none]
  intro e he
  simpa using h e he

theorem find_some {A : List En} (hn : (A.map En.n).Nodup) {e : En} (he : e ∈ A) : A.find? (fun x => decide (x.n = e.n)) = some e := by
  cases hf : A.find? (fun x => decide (x.n = e.n)) with
  | none => exact absurd (List.find?_eq_none.1 hf e he) (by simp)
  | some x =>
    have h1 := List.mem_of_find?_eq_some hf
    have h2 : x.n = e.n := by simpa using List.find?_some hf
    have := one_key (L := A.map (fun e => (e.n, e))) (by rw [List.map_map]; exact hn) (p := (x.n, x)) (q := (e.n, e)) (List.mem_map.2 ⟨x, h1, rfl⟩) (List.mem_map.2 ⟨e, he, rfl⟩) h2
    have h3 : x = e := congrArg Prod.snd this
    rw [h3]

theorem MS.nodup {w : World} {p gw bh bn bt : Nat} {G : Int} {A : List En} (h : MS w p gw bh bn bt G A) : (A.map En.n).Nodup ∧ (A.map En.h).Nodup := by
  obtain ⟨D, _, hh⟩ := h.mh
  obtain ⟨D', _, hh'⟩ := h.mn
  have h1 := hh.nd
  have h2 := hh'.nd
  rw [List.map_map] at h1 h2
  exact ⟨h1, h2⟩

theorem MS.wf {w : World} {p gw bh bn bt : Nat} {G : Int} {A : List En} (h : MS w p gw bh bn bt G A) (e : En) (he : e ∈ A) : e.n.wf ∧ (Lit.int .i64 e.h).wf = true ∧ (Lit.int .i64 e.t).wf = true := by
  obtain ⟨D, _, hh⟩ := h.mh
  obtain ⟨D', _, hh'⟩ := h.mt
  have h1 := hh.wf _ (List.mem_map.2 ⟨e, he, rfl⟩)
  have h2 := hh'.wf _ (List.mem_map.2 ⟨e, he, rfl⟩)
  exact ⟨h1.1, h1.2, h2.2⟩

theorem MS.look_t {w : World} {p gw bh bn bt : Nat} {G : Int} {A : List En} (h : MS w p gw bh bn bt G A) (k : K5) (hk : k.wf) : (Instr.lookup 62 (.map (some bt)) k.v true).run Try.prog w = .ok (.tuple #[.int .i64 (timeOf A k).1, .bool (timeOf A k).2]) w := by
  rcases h.mt.look_ok k hk with ⟨x, hx, hr⟩ | ⟨hn, hr⟩
  · obtain ⟨e, he, hee⟩ := List.mem_map.1 hx
    have h1 : e.n = k := congrArg Prod.fst hee
    have h2 : e.t = x := congrArg Prod.snd hee
    subst h1 h2
    unfold timeOf
    rw [find_some h.nodup.1 he]
    exact hr
  · unfold timeOf
    rw [find_none (fun e he e2 => hn _ (List.mem_map.2 ⟨e, he, rfl⟩) e2)]
    exact hr

theorem MS.look_h {w : World} {p gw bh bn bt : Nat} {G : Int} {A : List En} (h : MS w p gw bh bn bt G A) (k : K5) (hk : k.wf) : (Instr.lookup 62 (.map (some bh)) k.v true).run Try.prog w = .ok (.tuple #[.int .i64 (handOf A k).1, .bool (handOf A k).2]) w := by
  rcases h.mh.look_ok k hk with ⟨x, hx, hr⟩ | ⟨hn, hr⟩
  · obtain ⟨e, he, hee⟩ := List.mem_map.1 hx
    have h1 : e.n = k := congrArg Prod.fst hee
    have h2 : e.h = x := congrArg Prod.snd hee
    subst h1 h2
    unfold handOf
    rw [find_some h.nodup.1 he]
    exact hr
  · unfold handOf
    rw [find_none (fun e he e2 => hn _ (List.mem_map.2 ⟨e, he, rfl⟩) e2)]
    exact hr

set_option maxHeartbeats 4000000 in
theorem time_m {w : World} {p gw bh bn bt : Nat} {G : Int} {A : List En} (h : MS w p gw bh bn bt G A) (k : K5) (hk : k.wf) : Calls Try.prog 17 #[.pointer (some ⟨p, 0, none⟩), k.v] w fun e w' => e = .returned (.tuple #[.int .i64 (timeOf A k).1, .bool (timeOf A k).2]) ∧ Only (fun _ => False) w w' := by
  obtain ⟨w1, hw1⟩ : ∃ w1, w1 = w.alloc (boxN k) := ⟨_, rfl⟩
  have ho1 : Only (fun _ => False) w w1 := by rw [hw1]; exact (Only.refl _ w).alloc _
  have h1 := h.only ho1 (fun h => h) (fun h => h) (fun h => h) (fun h => h)
  have hl := (h1.only ((Only.refl (fun _ => False) w1).drew) (fun h => h) (fun h => h) (fun h => h) (fun h => h)).look_t k hk
  obtain ⟨N, hN⟩ : ∃ N, N = w.heap.size := ⟨_, rfl⟩
  have hb : w1.heap[N]? = some (boxN k) := by rw [hw1, hN]; exact heap_alloc_new w _
  have y0 : w1.cell? ⟨N, 0, none⟩ = some (.int .i64 k.a) := cell_at hb 0 rfl
  have y1 : w1.cell? ⟨N, 1, none⟩ = some (.int .i64 k.b) := cell_at hb 1 rfl
  have y2 : w1.cell? ⟨N, 2, none⟩ = some (.int .i64 k.c) := cell_at hb 2 rfl
  have y3 : w1.cell? ⟨N, 3, none⟩ = some (.int .i64 k.d) := cell_at hb 3 rfl
  have y4 : w1.cell? ⟨N, 4, none⟩ = some (.int .i64 k.e) := cell_at hb 4 rfl
  have h4 := h1.c4
  obtain ⟨⟨t, b⟩, htb⟩ : ∃ z, z = timeOf A k := ⟨_, rfl⟩
  rw [← htb] at hl ⊢
  simp only at hl ⊢
  have H1 := Lib.hid h1
  have HO1 := Lib.hid ho1
  obtain ⟨a, b', c, d, e⟩ := k
  unfold K5.v at hl ⊢
  unfold boxN at hw1
  simp only at hl y0 y1 y2 y3 y4 hw1 ⊢
  clear h h1 ho1 htb hb
  go_enter Try.func17, Try.ntmps17
  go_wp2_with fail
  rw [← hw1, ← hN]
  clear hw1 hN
  go_wp2_with (go_at_call 25; refine (none_a H1.out).mono ?_; rintro e w' ⟨rfl, rfl⟩)
  go_region
  go_wp2
  go_ret2
  exact ⟨rfl, HO1.out.drew⟩

/-- Without one of its own. -/
theorem cut_maps {A : List En} (hn : (A.map En.n).Nodup) (hh : (A.map En.h).Nodup) {e : En} (he : e ∈ A) :
    (A.map En.nh).filter (fun p => decide (p.1 ≠ e.n)) = (A.filter (fun x => decide (x.h ≠ e.h))).map En.nh ∧
    (A.map En.hn).filter (fun p => decide (p.1 ≠ e.h)) = (A.filter (fun x => decide (x.h ≠ e.h))).map En.hn ∧
    (A.map En.nt).filter (fun p => decide (p.1 ≠ e.n)) = (A.filter (fun x => decide (x.h ≠ e.h))).map En.nt := by
  have key : ∀ x ∈ A, (x.n = e.n ↔ x.h = e.h) := fun x hx => by
    constructor
    · intro h
      have := one_key (L := A.map (fun e => (e.n, e))) (by rw [List.map_map]; exact hn) (p := (x.n, x)) (q := (e.n, e)) (List.mem_map.2 ⟨x, hx, rfl⟩) (List.mem_map.2 ⟨e, he, rfl⟩) h
      have h3 : x = e := congrArg Prod.snd this
      rw [h3]
    · intro h
      have := one_key (L := A.map (fun e => (e.h, e))) (by rw [List.map_map]; exact hh) (p := (x.h, x)) (q := (e.h, e)) (List.mem_map.2 ⟨x, hx, rfl⟩) (List.mem_map.2 ⟨e, he, rfl⟩) h
      have h3 : x = e := congrArg Prod.snd this
      rw [h3]
  refine ⟨?_, ?_, ?_⟩ <;> rw [List.filter_map] <;> congr 1 <;> refine List.filter_congr fun x hx => ?_ <;> simp only [Function.comp, En.nh, En.hn, En.nt, ne_eq, key x hx]

set_option maxHeartbeats 4000000 in
theorem forget_m {w : World} {p gw bh bn bt : Nat} {G : Int} {A : List En} (h : MS w p gw bh bn bt G A) {e : En} (he : e ∈ A) : Calls Try.prog 30 #[.pointer (some ⟨p, 0, none⟩), e.n.v, .int .i64 e.h] w fun en w' => en = .returned (.tuple #[]) ∧ MS w' p gw bh bn bt G (A.filter (fun x => decide (x.h ≠ e.h))) ∧ Only (fun i => i = bh ∨ i = bn ∨ i = bt) w w' := by
  have hnd := h.nodup
  obtain ⟨hkw, hhw, _⟩ := h.wf e he
  have hcm := cut_maps hnd.1 hnd.2 he
  obtain ⟨A', hA'⟩ : ∃ A', A' = A.filter (fun x => decide (x.h ≠ e.h)) := ⟨_, rfl⟩
  rw [← hA'] at hcm ⊢
  clear hA'
  have HCM := Lib.hid hcm
  have HKN := Lib.hid (key_of e.n hkw)
  have HKH := Lib.hid (keyI hhw)
  have HKW := Lib.hid hkw
  have HHW := Lib.hid hhw
  have HNE := Lib.hid h.ne
  have HD := Lib.hid h.d
  have HG := Lib.hid h.g
  obtain ⟨w1, hw1⟩ : ∃ w1, w1 = w.alloc (boxN e.n) := ⟨_, rfl⟩
  have ho1 : Only (fun _ => False) w w1 := by rw [hw1]; exact (Only.refl _ w).alloc _
  have h1 := (h.only ho1 (fun h => h) (fun h => h) (fun h => h) (fun h => h))
  obtain ⟨N, hN⟩ : ∃ N, N = w.heap.size := ⟨_, rfl⟩
  have hb : w1.heap[N]? = some (boxN e.n) := by rw [hw1, hN]; exact heap_alloc_new w _
  have HNL : Hid (N ≠ bh ∧ N ≠ bn ∧ N ≠ bt) := Lib.hid (by have := h.mh.lt; have := h.mn.lt; have := h.mt.lt; omega)
  obtain ⟨hblk, ⟨D1, own1, hd1⟩, hm2, hm3, _, _⟩ := h1
  have HB := Lib.hid hblk
  have HBX := Lib.hid hb
  have HO1 := Lib.hid ho1
  have x2 : w1.cell? ⟨p, 2, none⟩ = some (.map (some bh)) := cell_at hblk 2 rfl
  have y0 : w1.cell? ⟨N, 0, none⟩ = some (.int .i64 e.n.a) := cell_at hb 0 rfl
  have y1 : w1.cell? ⟨N, 1, none⟩ = some (.int .i64 e.n.b) := cell_at hb 1 rfl
  have y2 : w1.cell? ⟨N, 2, none⟩ = some (.int .i64 e.n.c) := cell_at hb 2 rfl
  have y3 : w1.cell? ⟨N, 3, none⟩ = some (.int .i64 e.n.d) := cell_at hb 3 rfl
  have y4 : w1.cell? ⟨N, 4, none⟩ = some (.int .i64 e.n.e) := cell_at hb 4 rfl
  have HD1 := Lib.hid hd1
  have HM2 := Lib.hid hm2
  have HM3 := Lib.hid hm3
  obtain ⟨k, t, hh⟩ := e
  obtain ⟨a, b', c, d, e⟩ := k
  unfold boxN at hw1
  unfold K5.v
  simp only at y0 y1 y2 y3 y4 hw1 ⊢
  clear h hcm hnd hkw hhw ho1 hblk hb hd1 hm2 hm3 he
  go_enter Try.func30, Try.ntmps30
  go_wp2_with fail
  rw [← hw1, ← hN]
  clear hw1 hN
  go_wp2_with fail
  go_still_tail 5, (by kernel_rfl)
  change wpList _ _ _ _ _ w1.drew
  go_wp2_with (at_delete; go_loud (refine wpList_delete_own _ rfl _ _ 62 33 rfl 3 lawN Try.underlying62 _ bh _ D1 rfl own1.drew _ _ rfl HKN.out ?_; intro w2 hown2 hturn2))
  have o2 : Only (fun i => i = bh) w1 w2 := (Only.refl (fun i => i = bh) w1).drew.trans (grown_only hturn2.grown)
  have hbw2 := o2.blk HBX.out HNL.out.1
  have hbp2 := o2.blk HB.out HNE.out.1
  have x4 : w2.cell? ⟨p, 4, none⟩ = some (.map (some bt)) := cell_at hbp2 4 rfl
  have z0 : w2.cell? ⟨N, 0, none⟩ = some (.int .i64 a) := cell_at hbw2 0 rfl
  have z1 : w2.cell? ⟨N, 1, none⟩ = some (.int .i64 b') := cell_at hbw2 1 rfl
  have z2 : w2.cell? ⟨N, 2, none⟩ = some (.int .i64 c) := cell_at hbw2 2 rfl
  have z3 : w2.cell? ⟨N, 3, none⟩ = some (.int .i64 d) := cell_at hbw2 3 rfl
  have z4 : w2.cell? ⟨N, 4, none⟩ = some (.int .i64 e) := cell_at hbw2 4 rfl
  have M1 : Hid (MH w2 bh (A'.map En.nh)) := Lib.hid (by rw [← HCM.out.1]; exact MH.tight hown2 (HD1.out.del _ HKW.out))
  obtain ⟨D3, own3, hd3⟩ := HM3.out.only o2 (fun h => HD.out.2.1 h.symm)
  have HM2' := Lib.hid (HM2.out.only o2 (fun h => HD.out.1 h.symm))
  have HD3 := Lib.hid hd3
  have HB2 := Lib.hid hbp2
  have HO2 := Lib.hid o2
  clear hown2 hturn2 o2 hd3 hbp2 hbw2 own1 x2 y0 y1 y2 y3 y4
  go_still_tail 5, (by kernel_rfl)
  change wpList _ _ _ _ _ w2.drew
  go_upto_region 3 with (at_delete; go_loud (refine wpList_delete_own _ rfl _ _ 62 33 rfl 3 lawN Try.underlying62 _ bt _ D3 rfl own3.drew _ _ rfl HKN.out ?_; intro w3 hown3 hturn3))
  have o3 : Only (fun i => i = bt) w2 w3 := (Only.refl (fun i => i = bt) w2).drew.trans (grown_only hturn3.grown)
  have hbp3 := o3.blk HB2.out HNE.out.2.2
  have x3 : w3.cell? ⟨p, 3, none⟩ = some (.map (some bn)) := cell_at hbp3 3 rfl
  have M3 : Hid (MH w3 bt (A'.map En.nt)) := Lib.hid (by rw [← HCM.out.2.2]; exact MH.tight hown3 (HD3.out.del _ HKW.out))
  have M1' := Lib.hid (M1.out.only o3 (fun h => HD.out.2.1 h))
  obtain ⟨D2, own2, hd2⟩ := HM2'.out.only o3 (fun h => HD.out.2.2 h)
  have HD2 := Lib.hid hd2
  have HB3 := Lib.hid hbp3
  have HO3 := Lib.hid o3
  clear hown3 hturn3 o3 hd2 hbp3 own3 x4 z0 z1 z2 z3 z4
  go_wp2_with (at_delete; go_loud (refine wpList_delete_own _ rfl _ _ 63 3 rfl 33 lawI Try.underlying63 _ bn _ D2 rfl own2 _ _ rfl HKH.out ?_; intro w4 hown4 hturn4))
  go_end0
  have o4 : Only (fun i => i = bn) w3 w4 := grown_only hturn4.grown
  refine ⟨rfl, ⟨o4.blk HB3.out HNE.out.2.1, M1'.out.only o4 (fun h => HD.out.1 h), ?_, M3.out.only o4 (fun h => HD.out.2.2 h.symm), HG.out, HD.out⟩, (HO1.out.mono (fun _ h => h.elim)).trans ((HO2.out.mono (fun i h => .inl h)).trans ((HO3.out.mono (fun i h => .inr (.inr h))).trans (o4.mono (fun i h => .inr (.inl h)))))⟩
  rw [← HCM.out.2.1]
  exact MN.tight hown4 (HD2.out.del _ HHW.out)
end Go.Proofs.Ytmkcckkjkfmheaa.Al

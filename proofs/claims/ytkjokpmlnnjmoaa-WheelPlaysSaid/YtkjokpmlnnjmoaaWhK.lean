/- Wheel: rows of handles and of timers; a map of timers, as a list. -/
import Derived.Test.YtkjokpmlnnjmoaaProg
import Derived.Test.YtkjokpmlnnjmoaaBase
import Derived.Test.YtkjokpmlnnjmoaaRws
import Derived.Test.YtkjokpmlnnjmoaaWhN
import Derived.WalkSpells
import Derived.Maps.OwnSet
import Derived.Maps.RangeWalk
import Derived.Maps.Ext
set_option linter.unusedVariables false
set_option linter.unusedSimpArgs false
namespace Go.Proofs.Ytkjokpmlnnjmoaa.Wh
open Go.RowKit Go.Maps Go.Proofs.Ytkjokpmlnnjmoaa.Base Go.Proofs.Ytkjokpmlnnjmoaa.Rws Go.Proofs.YtkjokpmlnnjmoaaW.PrintWords Go.Proofs.YtkjokpmlnnjmoaaW.PrintMore
attribute [local go_sem] max2_mx min2_mn max_two min_two max_three min_three max_four min_four

theorem info3 : (Try.prog.info? 3).map (fun i => (i.zero, i.size, i.bytes)) = some (some (.int .i64 0), 1, 8) := by kernel_rfl
theorem info60 : (Try.prog.info? 60).map (fun i => (i.zero, i.size, i.bytes)) = some (some (.agg #[.int .i64 0, .int .i64 0, .int .i64 0, .int .i64 0]), 4, 32) := by kernel_rfl

/-- Whole numbers of the call's own. -/
def Ks (w : World) (P : Nat → Prop) (v : Value) (L : List Int) : Prop := Row 1 3 w P v L.length (L.map (Value.int .i64))

theorem Ks.app {W : World} {P : Nat → Prop} {v : Value} {L : List Int} (h : Ks W P v L) (hP : ∀ k, W.heap.size ≤ k → P k) (hl : L.length ≤ 20000) (x : Int) (ty : TypeId) :
    ∃ v1 w1, (Builtin.append_ #[22, 22] ty #[v, .slice (some ⟨W.heap.size, 0, none⟩) 1 1]).run Try.prog (W.alloc (.cells #[.int .i64 x] 3)) = .ok v1 w1 ∧ Ks w1 P v1 (L ++ [x]) ∧ Only (fun k => v.ownBlock = some k) W w1 := by
  have hO : Only (fun k => v.ownBlock = some k) W (W.alloc (.cells #[.int .i64 x] 3)) := (Only.refl _ W).alloc _
  have hnew := heap_alloc_new W (.cells #[.int .i64 x] 3)
  have hrow : Row 1 3 (W.alloc (.cells #[.int .i64 x] 3)) P v L.length (L.map (Value.int .i64)) := Row.keep h (fun g _ hg => heap_alloc_old W _ hg)
  have hsz : (W.alloc (.cells #[.int .i64 x] 3)).heap.size = W.heap.size + 1 := by show (W.heap.push _).size = _; simp
  generalize W.alloc (.cells #[.int .i64 x] 3) = W1 at *
  obtain ⟨v1, w1, hr, hR, ho⟩ := Row.app (ty := ty) hrow Try.underlying22 info3 (by rfl) (fun k hk => hP k (by omega)) ⟨W.heap.size, 0, none⟩ 1 1 [.int .i64 x] (by simp) (fun i u hu => by
    rw [Addr.add_lit, Nat.zero_add]
    refine cell_at hnew i ?_
    simpa using hu) (by simp [Value.oneCell']) (by omega) (by omega) (by omega)
  refine ⟨v1, w1, hr, ?_, hO.trans ho⟩
  unfold Ks
  rw [List.length_append, List.length_singleton, List.map_append]
  simpa using hR

theorem Ks.ne {w : World} {P : Nat → Prop} {v : Value} {L : List Int} (h : Ks w P v L) {g : Nat} {cs : Array Value} {t : TypeId} (hg : w.heap[g]? = some (.cells cs t (0, 0))) (ht : t ≠ 3 := by decide) : ¬ v.ownBlock = some g := Row.ne h hg ht

theorem Row.neMap {sz : Nat} {e : TypeId} {w : World} {P : Nat → Prop} {v : Value} {n : Nat} {xs : List Value} (h : Row sz e w P v n xs) {g : Nat} {es : Array MapEntry} {c : Nat} (hg : w.heap[g]? = some (.map es c)) : v.ownBlock ≠ some g := by
  intro hv
  rcases h with ⟨rfl, _⟩ | ⟨q, o, c, cells, rfl, _, hh, _⟩
  · simp [Value.ownBlock] at hv
  · simp [Value.ownBlock] at hv
    subst hv
    rw [hg] at hh
    cases hh

theorem Row.apart {sz sz' : Nat} {e e' : TypeId} {w : World} {P P' : Nat → Prop} {v v' : Value} {n n' : Nat} {xs xs' : List Value} (h : Row sz e w P v n xs) (h' : Row sz' e' w P' v' n' xs') (he : e ≠ e') {k : Nat} (hk : v.ownBlock = some k) : v'.ownBlock ≠ some k := by
  rcases h with ⟨rfl, _⟩ | ⟨q, o, c, cells, rfl, _, hh, _⟩
  · simp [Value.ownBlock] at hk
  · simp [Value.ownBlock] at hk
    subst hk
    exact Row.ne h' hh he

def encT (t : Tm) : List Value := [.int .i64 t.at_, .int .i64 t.h, .int .i64 t.lv, .int .i64 t.sl]
def Tm.v (t : Tm) : Value := .agg #[.int .i64 t.at_, .int .i64 t.h, .int .i64 t.lv, .int .i64 t.sl]

/-- Timers of the call's own. -/
def Ts (w : World) (P : Nat → Prop) (v : Value) (L : List Tm) : Prop := Row 4 60 w P v L.length (L.flatMap encT)

theorem Ts.app {W : World} {P : Nat → Prop} {v : Value} {L : List Tm} (h : Ts W P v L) (hP : ∀ k, W.heap.size ≤ k → P k) (hl : L.length ≤ 20000) (x : Tm) (ty : TypeId) :
    ∃ v1 w1, (Builtin.append_ #[61, 61] ty #[v, .slice (some ⟨W.heap.size, 0, none⟩) 1 1]).run Try.prog (W.alloc (.cells #[.int .i64 x.at_, .int .i64 x.h, .int .i64 x.lv, .int .i64 x.sl] 60)) = .ok v1 w1 ∧ Ts w1 P v1 (L ++ [x]) ∧ Only (fun k => v.ownBlock = some k) W w1 := by
  have hO : Only (fun k => v.ownBlock = some k) W (W.alloc (.cells #[.int .i64 x.at_, .int .i64 x.h, .int .i64 x.lv, .int .i64 x.sl] 60)) := (Only.refl _ W).alloc _
  have hnew := heap_alloc_new W (.cells #[.int .i64 x.at_, .int .i64 x.h, .int .i64 x.lv, .int .i64 x.sl] 60)
  have hrow : Row 4 60 (W.alloc (.cells #[.int .i64 x.at_, .int .i64 x.h, .int .i64 x.lv, .int .i64 x.sl] 60)) P v L.length (L.flatMap encT) := Row.keep h (fun g _ hg => heap_alloc_old W _ hg)
  have hsz : (W.alloc (.cells #[.int .i64 x.at_, .int .i64 x.h, .int .i64 x.lv, .int .i64 x.sl] 60)).heap.size = W.heap.size + 1 := by show (W.heap.push _).size = _; simp
  generalize W.alloc (.cells #[.int .i64 x.at_, .int .i64 x.h, .int .i64 x.lv, .int .i64 x.sl] 60) = W1 at *
  obtain ⟨v1, w1, hr, hR, ho⟩ := Row.app (ty := ty) hrow Try.underlying61 info60 (by rfl) (fun k hk => hP k (by omega)) ⟨W.heap.size, 0, none⟩ 1 1 (encT x) (by simp [encT]) (fun i u hu => by
    rw [Addr.add_lit, Nat.zero_add]
    refine cell_at hnew i ?_
    simpa [encT] using hu) (by simp [encT, Value.oneCell']) (by omega) (by omega) (by omega)
  refine ⟨v1, w1, hr, ?_, hO.trans ho⟩
  unfold Ts
  rw [List.length_append, List.length_singleton, List.flatMap_append]
  simpa using hR

theorem encT_at : ∀ (L : List Tm) (i j : Nat) (p : Tm), L[i]? = some p → j < 4 → (L.flatMap encT)[i * 4 + j]? = (encT p)[j]?
  | [], i, j, p, h, _ => by simp at h
  | q :: L, 0, j, p, h, hj => by
    simp at h
    subst h
    rw [List.flatMap_cons, Nat.zero_mul, Nat.zero_add, List.getElem?_append_left (by simpa [encT] using hj)]
  | q :: L, i + 1, j, p, h, hj => by
    rw [List.flatMap_cons, List.getElem?_append_right (by simp [encT]; omega)]
    rw [show (i + 1) * 4 + j - (encT q).length = i * 4 + j by simp [encT]; omega]
    exact encT_at L i j p (by simpa using h) hj

/-! ### A map of timers -/
theorem law : Keyed Try.prog 3 := int_keyed Try.underlying3
theorem wf64 {x : Int} (h0 : -9223372036854775808 ≤ x) (h1 : x ≤ 9223372036854775807) : (Lit.int .i64 x).wf = true := WalkArith.wf_i64 ⟨h0, h1⟩
theorem keyI {x : Int} (h : (Lit.int .i64 x).wf = true) : keyOf Try.prog 3 (.int .i64 x) = some (.int .i64 x) := Maps.keyOf_int_mk Try.underlying3 h

def datT (t : Tm) : DataW Unit := .agg [.lit (.int .i64 t.at_), .lit (.int .i64 t.h), .lit (.int .i64 t.lv), .lit (.int .i64 t.sl)]
/-- How a timer reads. -/
def rdT : Value → Option (DataW Unit × List MemPlace)
  | .agg cs => match cs.toList with
    | [.int .i64 a, .int .i64 b, .int .i64 c, .int .i64 d] => some (datT ⟨a, b, c, d⟩, [])
    | _ => none
  | _ => none

theorem rdT_v (t : Tm) : rdT t.v = some (datT t, []) := rfl

theorem rdT_inv {v : Value} {z : DataW Unit × List MemPlace} (h : rdT v = some z) : ∃ t : Tm, v = t.v ∧ z = (datT t, []) := by
  unfold rdT at h
  split at h
  · rename_i cs
    split at h
    · rename_i a b c d hcs
      injection h with h
      subst h
      refine ⟨⟨a, b, c, d⟩, ?_, rfl⟩
      unfold Tm.v
      congr 1
      apply Array.toList_inj.1
      exact hcs
    · cases h
  · cases h

theorem datT_inj {t t' : Tm} (h : datT t = datT t') : t = t' := by
  unfold datT at h
  simp at h
  obtain ⟨h1, h2, h3, h4⟩ := h
  cases t; cases t'; simp_all

theorem same_int {a b : Int} (ha : (Lit.int .i64 a).wf = true) (hb : (Lit.int .i64 b).wf = true) : (Lit.int .i64 a).sameKey (.int .i64 b) = decide (a = b) := by
  by_cases e : a = b
  · subst e
    simp [WideAt.sameKey_self (law.key (keyI ha))]
  · have hne : (Lit.int .i64 a) ≠ .int .i64 b := fun e2 => e (by injection e2)
    simp [sameKey_ne hne, e]

/-- An entry as the map reads. -/
def ent (t : Tm) : Lit × DataW Unit := (.int .i64 t.h, datT t)

/-- The map reads as this list, in whatever order. -/
structure Holds (D : DataW Unit) (L : List Tm) : Prop where
  es : ∃ es, D = .map es ∧ es.Perm (L.map ent)
  wf : ∀ t ∈ L, (Lit.int .i64 t.h).wf = true
  nd : (L.map Tm.h).Nodup

theorem Holds.empty : Holds (.map []) [] := ⟨⟨[], rfl, .refl _⟩, by simp, by simp⟩

theorem Holds.size {D : DataW Unit} {L : List Tm} (h : Holds D L) : Maps.size D = L.length := by
  obtain ⟨es, rfl, hp⟩ := h.es
  rw [size_eq, hp.length_eq, List.length_map]

theorem any_ent {L : List Tm} (h : ∀ t ∈ L, (Lit.int .i64 t.h).wf = true) (k : Int) (hk : (Lit.int .i64 k).wf = true) : (L.map ent).any (fun p => p.1.sameKey (.int .i64 k)) = L.any (fun t => decide (t.h = k)) := by
  rw [List.any_map]
  induction L with
  | nil => rfl
  | cons q L ih =>
    rw [List.any_cons, List.any_cons, ih (fun p hp => h p (List.mem_cons_of_mem _ hp))]
    simp only [Function.comp, ent]
    rw [same_int (h q (by simp)) hk]

theorem filter_ent {L : List Tm} (h : ∀ t ∈ L, (Lit.int .i64 t.h).wf = true) (k : Int) (hk : (Lit.int .i64 k).wf = true) : (L.map ent).filter (ChangeMaps.notKey (.int .i64 k)) = (L.filter (fun t => decide (t.h ≠ k))).map ent := by
  rw [List.filter_map]
  congr 1
  refine List.filter_congr fun q hq => ?_
  simp only [Function.comp, ent, ChangeMaps.notKey]
  rw [same_int (h q hq) hk]
  simp

theorem Holds.has {D : DataW Unit} {L : List Tm} (h : Holds D L) (k : Int) (hk : (Lit.int .i64 k).wf = true) : Maps.has D (.int .i64 k) = L.any (fun t => decide (t.h = k)) := by
  obtain ⟨es, rfl, hp⟩ := h.es
  rw [has_eq, hp.any_eq, any_ent h.wf k hk]

theorem Holds.at_ {D : DataW Unit} {L : List Tm} (h : Holds D L) {t : Tm} (ht : t ∈ L) (z : DataW Unit) : D.atKey (.int .i64 t.h) z = datT t := by
  have hw := h.wf t ht
  obtain ⟨es, rfl, hp⟩ := h.es
  unfold DataW.atKey
  have hm : ent t ∈ es := hp.mem_iff.2 (List.mem_map.2 ⟨t, ht, rfl⟩)
  cases hf : es.find? (fun p => p.1.sameKey (.int .i64 t.h)) with
  | none =>
    have := List.find?_eq_none.1 hf _ hm
    simp only [ent] at this
    rw [same_int hw hw] at this
    simp at this
  | some p =>
    have hm2 := List.mem_of_find?_eq_some hf
    have hs := List.find?_some hf
    obtain ⟨q, hq, rfl⟩ := List.mem_map.1 (hp.mem_iff.1 hm2)
    simp only [ent] at hs
    rw [same_int (h.wf q hq) hw] at hs
    simp only [decide_eq_true_eq] at hs
    have hqt : q = t := by
      have hn := h.nd
      clear hf hm hm2 hp
      clear h
      induction L with
      | nil => cases ht
      | cons r L ih =>
        rw [List.map_cons, List.nodup_cons] at hn
        rcases List.mem_cons.1 ht with rfl | h1
        · rcases List.mem_cons.1 hq with rfl | h2
          · rfl
          · exact absurd (List.mem_map.2 ⟨_, h2, hs⟩) hn.1
        · rcases List.mem_cons.1 hq with rfl | h2
          · exact absurd (List.mem_map.2 ⟨_, h1, hs.symm⟩) hn.1
          · exact ih h1 h2 hn.2
    subst hqt
    simp only [hf, ent]

theorem Holds.del {D : DataW Unit} {L : List Tm} (h : Holds D L) (k : Int) (hk : (Lit.int .i64 k).wf = true) : Holds (D.del (.int .i64 k)) (L.filter (fun t => decide (t.h ≠ k))) := by
  obtain ⟨es, rfl, hp⟩ := h.es
  refine ⟨⟨_, DataW.del_eq _ _, ?_⟩, fun p hp => h.wf p (List.mem_filter.1 hp).1, h.nd.sublist ((List.filter_sublist).map _)⟩
  rw [← filter_ent h.wf k hk]
  exact hp.filter _

theorem Holds.put {D : DataW Unit} {L : List Tm} (h : Holds D L) (t : Tm) (hk : (Lit.int .i64 t.h).wf = true) : Holds (D.put (.int .i64 t.h) (datT t)) (L.filter (fun x => decide (x.h ≠ t.h)) ++ [t]) := by
  obtain ⟨es, rfl, hp⟩ := h.es
  refine ⟨⟨_, DataW.put_eq _ _ _, ?_⟩, ?_, ?_⟩
  · have h1 := hp.filter (ChangeMaps.notKey (.int .i64 t.h))
    rw [filter_ent h.wf t.h hk] at h1
    refine (WideShapes.insert_perm _ _).trans ((h1.cons _).trans ?_)
    rw [List.map_append]
    exact List.perm_append_comm (l₁ := [ent t])
  · intro p hp
    rcases List.mem_append.1 hp with h1 | h1
    · exact h.wf p (List.mem_filter.1 h1).1
    · simp at h1
      subst h1
      exact hk
  · rw [List.map_append, List.nodup_append]
    refine ⟨h.nd.sublist ((List.filter_sublist).map _), by simp, fun a ha b hb => ?_⟩
    simp at hb
    subst hb
    obtain ⟨p, hp, rfl⟩ := List.mem_map.1 ha
    simpa using (List.mem_filter.1 hp).2

/-- Block b is a map that reads as this list. -/
def TM (w : World) (b : Nat) (L : List Tm) : Prop := ∃ D : DataW Unit, w.ownsMap Try.prog 3 rdT b L.length D ∧ Holds D L

theorem tight {w : World} {b n : Nat} {D : DataW Unit} {L : List Tm} (h : w.ownsMap Try.prog 3 rdT b n D) (hh : Holds D L) : TM w b L := by
  have hs := hh.size
  refine ⟨D, ?_, hh⟩
  obtain ⟨es, clock, hb, F, _, rfl⟩ := h
  rw [Maps.size, length_sorted] at hs
  exact ⟨es, clock, hb, F, by simpa using Nat.le_of_eq hs, rfl⟩

theorem TM.only {w w' : World} {b : Nat} {L : List Tm} {S : Nat → Prop} (h : TM w b L) (k : Only S w w') (hn : ¬ S b) : TM w' b L := by
  obtain ⟨D, ⟨es, clock, hb, F, hs, hD⟩, hh⟩ := h
  exact ⟨D, ⟨es, clock, k.blk hb hn, F, hs, hD⟩, hh⟩

theorem TM.lt {w : World} {b : Nat} {L : List Tm} (h : TM w b L) : b < w.heap.size := by
  obtain ⟨D, ho, _⟩ := h
  exact ho.lt

theorem TM.isMap {w : World} {b : Nat} {L : List Tm} (h : TM w b L) : ∃ es c, w.heap[b]? = some (.map es c) := by
  obtain ⟨D, ⟨es, clock, hb, _⟩, _⟩ := h
  exact ⟨es, clock, hb⟩

theorem TM.ne {w : World} {g b : Nat} {L : List Tm} {cs : Array Value} {t : TypeId} (h : TM w b L) (hg : w.heap[g]? = some (.cells cs t (0, 0))) : g ≠ b := by
  rintro rfl
  obtain ⟨es, c, hb⟩ := h.isMap
  rw [hb] at hg
  cases hg

theorem zero60 (w : World) : (zeroValue 60).run Try.prog w = .ok (Tm.v ⟨0, 0, 0, 0⟩) w := by kernel_rfl

theorem TM.look {w : World} {b : Nat} {L : List Tm} (h : TM w b L) {t : Tm} (ht : t ∈ L) : (Instr.lookup 53 (.map (some b)) (.int .i64 t.h) false).run Try.prog w = .ok t.v w := by
  obtain ⟨D, ho, hh⟩ := h
  obtain ⟨v, ps, hr, hv⟩ := ho.lookup law Try.underlying53 (zero60 w) (rdT_v _) (keyI (hh.wf t ht))
  rw [hh.at_ ht] at hv
  obtain ⟨t', rfl, ht'⟩ := rdT_inv hv
  obtain rfl : t = t' := datT_inj (congrArg Prod.fst ht')
  exact hr

theorem TM.look_ok {w : World} {b : Nat} {L : List Tm} (h : TM w b L) (k : Int) (hk : (Lit.int .i64 k).wf = true) :
    (∃ t ∈ L, t.h = k ∧ (Instr.lookup 53 (.map (some b)) (.int .i64 k) true).run Try.prog w = .ok (.tuple #[t.v, .bool true]) w) ∨ ((∀ t ∈ L, t.h ≠ k) ∧ (Instr.lookup 53 (.map (some b)) (.int .i64 k) true).run Try.prog w = .ok (.tuple #[Tm.v ⟨0, 0, 0, 0⟩, .bool false]) w) := by
  obtain ⟨D, ho, hh⟩ := h
  obtain ⟨v, ps, hr, hv⟩ := ho.look_ok law Try.underlying53 (zero60 w) (rdT_v _) (keyI hk)
  rw [hh.has k hk] at hr
  by_cases hm : ∃ t ∈ L, t.h = k
  · obtain ⟨t, ht, rfl⟩ := hm
    left
    refine ⟨t, ht, rfl, ?_⟩
    rw [hh.at_ ht] at hv
    obtain ⟨t', rfl, ht'⟩ := rdT_inv hv
    rw [← datT_inj (congrArg Prod.fst ht')] at hr
    rw [hr, List.any_eq_true.2 ⟨t, ht, by simp⟩]
  · right
    have hn : ∀ t ∈ L, t.h ≠ k := fun t ht e => hm ⟨t, ht, e⟩
    refine ⟨hn, ?_⟩
    have hany : L.any (fun t => decide (t.h = k)) = false := by
      rw [List.any_eq_false]
      intro t ht
      simpa using hn t ht
    have hhas : Maps.has D (.int .i64 k) = false := by rw [hh.has k hk]; exact hany
    rw [Maps.atKey_of_not_has hhas] at hv
    obtain ⟨t', rfl, ht'⟩ := rdT_inv hv
    rw [← datT_inj (congrArg Prod.fst ht')] at hr
    rw [hr, hany]

end Go.Proofs.Ytkjokpmlnnjmoaa.Wh

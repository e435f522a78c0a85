/- A map keyed by a call's key, as a list of keys and times: what each operation does to the list. -/
import Derived.Test.YtlgibnjhegoefaaProg
import Derived.Test.YtlgibnjhegoefaaBase
import Derived.WalkSpells
import Derived.Maps.OwnSet
import Derived.Maps.RangeWalk
import Derived.Maps.Ext
import Derived.DeepKeys4
set_option linter.unusedVariables false
set_option linter.unusedSimpArgs false
namespace Go.Proofs.Ytlgibnjhegoefaa.Sn
open Go.RowKit Go.Maps Go.Proofs.Ytlgibnjhegoefaa.Base Go.Proofs.YtlgibnjhegoefaaW.PrintWords Go.Proofs.YtlgibnjhegoefaaW.PrintMore
attribute [local go_sem] max2_mx min2_mn max_two min_two max_three min_three max_four min_four

theorem law : Keyed Try.prog 25 := Keyed.of_law (deep_law_laid (m := 8) (by kernel_rfl) (by decide) (of_decide_eq_true (by kernel_rfl)) (by kernel_rfl) (by kernel_rfl))

/-- A key: node, incarnation, number; attempt. -/
structure K4 where
  a : Int
  b : Int
  c : Int
  d : Int
deriving DecidableEq

def K4.v (k : K4) : Value := .agg #[.int .i64 k.a, .int .i64 k.b, .int .i64 k.c, .int .i64 k.d]
def K4.l (k : K4) : Lit := .string (keyBytes [.int .i64 k.a, .int .i64 k.b, .int .i64 k.c, .int .i64 k.d])
def K4.wf (k : K4) : Prop := (Lit.int .i64 k.a).wf = true ∧ (Lit.int .i64 k.b).wf = true ∧ (Lit.int .i64 k.c).wf = true ∧ (Lit.int .i64 k.d).wf = true

theorem isKey25 : Try.prog.keyType 25 = true := by kernel_rfl
theorem cells25 : Try.prog.cellsOf 25 = 4 := by kernel_rfl
theorem cells23 : Try.prog.cellsOf 23 = 3 := by kernel_rfl
theorem cells3 : Try.prog.cellsOf 3 = 1 := by kernel_rfl

theorem lits3 (n : Nat) (x : Int) (h : (Lit.int .i64 x).wf = true) : Try.prog.keyLits (n + 1) 3 [.int .i64 x] = some [.int .i64 x] := by
  simp only [Program.keyLits, Try.underlying3]
  simp [h]

theorem lits3_inv {n : Nat} {v : Value} {l : List Lit} (h : Try.prog.keyLits (n + 1) 3 [v] = some l) : ∃ x, v = .int .i64 x ∧ (Lit.int .i64 x).wf = true ∧ l = [.int .i64 x] := by
  simp only [Program.keyLits, Try.underlying3] at h
  split at h <;> simp_all

theorem lits23 (n : Nat) (v0 v1 v2 : Value) : Try.prog.keyLits (n + 1) 23 [v0, v1, v2] = (do
    let a ← Try.prog.keyLits n 3 [v0]
    let b ← Try.prog.keyLits n 3 [v1]
    let c ← Try.prog.keyLits n 3 [v2]
    pure (a ++ (b ++ (c ++ [])))) := by
  simp only [Program.keyLits, Try.underlying23]
  simp [ cells23, cells3, List.mapM_cons]
  cases Try.prog.keyLits n 3 [v0] <;> cases Try.prog.keyLits n 3 [v1] <;> cases Try.prog.keyLits n 3 [v2] <;> simp

theorem lits25 (n : Nat) (v0 v1 v2 v3 : Value) : Try.prog.keyLits (n + 1) 25 [v0, v1, v2, v3] = (do
    let a ← Try.prog.keyLits n 23 [v0, v1, v2]
    let b ← Try.prog.keyLits n 3 [v3]
    pure (a ++ (b ++ []))) := by
  simp only [Program.keyLits, Try.underlying25]
  simp [ cells25, cells23, cells3, List.mapM_cons]
  cases Try.prog.keyLits n 23 [v0, v1, v2] <;> cases Try.prog.keyLits n 3 [v3] <;> simp

theorem size3 : ∃ m, Try.prog.types.size + 1 = m + 1 + 1 + 1 := ⟨Try.prog.types.size - 2, by kernel_rfl⟩

theorem key_of (k : K4) (h : k.wf) : keyOf Try.prog 25 k.v = some k.l := by
  obtain ⟨h1, h2, h3, h4⟩ := h
  obtain ⟨m, hm⟩ := size3
  unfold keyOf
  rw [Try.underlying25]
  simp only [isKey25, K4.v, Value.formed, Try.underlying25, cells25, hm, Value.cells, lits25, lits23, lits3 _ _ h1, lits3 _ _ h2, lits3 _ _ h3, lits3 _ _ h4]
  simp [K4.l]

theorem key_inv {v : Value} {l : Lit} (h : keyOf Try.prog 25 v = some l) : ∃ k : K4, k.wf ∧ v = k.v ∧ l = k.l := by
  obtain ⟨m, hm⟩ := size3
  unfold keyOf at h
  rw [Try.underlying25] at h
  simp only [isKey25, Bool.true_and, hm] at h
  split at h
  · rename_i hf
    cases v with
    | agg cs =>
      simp only [Value.formed, Try.underlying25, cells25, beq_iff_eq] at hf
      obtain ⟨l'⟩ := cs
      match l', hf with
      | [v0, v1, v2, v3], _ =>
        simp only [Value.cells, lits25, lits23] at h
        cases h0 : Try.prog.keyLits (m + 1) 3 [v0] with
        | none => simp [h0] at h
        | some a0 =>
        cases h1 : Try.prog.keyLits (m + 1) 3 [v1] with
        | none => simp [h0, h1] at h
        | some a1 =>
        cases h2 : Try.prog.keyLits (m + 1) 3 [v2] with
        | none => simp [h0, h1, h2] at h
        | some a2 =>
        cases h3 : Try.prog.keyLits (m + 1 + 1) 3 [v3] with
        | none => simp [h0, h1, h2, h3] at h
        | some a3 =>
          obtain ⟨x0, rfl, w0, rfl⟩ := lits3_inv h0
          obtain ⟨x1, rfl, w1, rfl⟩ := lits3_inv h1
          obtain ⟨x2, rfl, w2, rfl⟩ := lits3_inv h2
          obtain ⟨x3, rfl, w3, rfl⟩ := lits3_inv h3
          simp [h0, h1, h2, h3] at h
          exact ⟨⟨x0, x1, x2, x3⟩, ⟨w0, w1, w2, w3⟩, rfl, h.symm⟩
    | _ => simp [Value.formed, Try.underlying25] at hf
  · cases h

theorem K4.same {k k' : K4} (h : k.wf) (h' : k'.wf) : k.l.sameKey k'.l = decide (k = k') := by
  by_cases e : k = k'
  · subst e
    simp [WideAt.sameKey_self (law.key (key_of k h))]
  · have hne : k.l ≠ k'.l := fun e2 => e (by
      have := law.inj (key_of k h) (e2 ▸ key_of k' h')
      simp [K4.v] at this
      obtain ⟨h1, h2, h3, h4⟩ := this
      cases k; cases k'; simp_all)
    simp [sameKey_ne hne, e]

theorem K4.v_inj {k k' : K4} (h : k.v = k'.v) : k = k' := by
  simp [K4.v] at h
  obtain ⟨h1, h2, h3, h4⟩ := h
  cases k; cases k'; simp_all

/-- An entry as the map reads. -/
def ent (p : K4 × Int) : Lit × DataW Unit := (p.1.l, .lit (.int .i64 p.2))

/-- The map reads as this list, in whatever order. -/
structure Holds (D : DataW Unit) (L : List (K4 × Int)) : Prop where
  es : ∃ es, D = .map es ∧ es.Perm (L.map ent)
  wf : ∀ p ∈ L, p.1.wf ∧ (Lit.int .i64 p.2).wf = true
  nd : (L.map Prod.fst).Nodup

theorem Holds.empty : Holds (.map []) [] := ⟨⟨[], rfl, .refl _⟩, by simp, by simp⟩

theorem Holds.size {D : DataW Unit} {L : List (K4 × Int)} (h : Holds D L) : Maps.size D = L.length := by
  obtain ⟨es, rfl, hp⟩ := h.es
  rw [size_eq, hp.length_eq, List.length_map]

theorem any_ent {L : List (K4 × Int)} (h : ∀ p ∈ L, p.1.wf ∧ (Lit.int .i64 p.2).wf = true) (k : K4) (hk : k.wf) : (L.map ent).any (fun p => p.1.sameKey k.l) = L.any (fun p => decide (p.1 = k)) := by
  rw [List.any_map]
  induction L with
  | nil => rfl
  | cons q L ih =>
    rw [List.any_cons, List.any_cons, ih (fun p hp => h p (List.mem_cons_of_mem _ hp))]
    simp only [Function.comp, ent]
    rw [K4.same (h q (by simp)).1 hk]

theorem filter_ent {L : List (K4 × Int)} (h : ∀ p ∈ L, p.1.wf ∧ (Lit.int .i64 p.2).wf = true) (k : K4) (hk : k.wf) : (L.map ent).filter (ChangeMaps.notKey k.l) = (L.filter (fun p => decide (p.1 ≠ k))).map ent := by
  rw [List.filter_map]
  congr 1
  refine List.filter_congr fun q hq => ?_
  simp only [Function.comp, ent, ChangeMaps.notKey]
  rw [K4.same (h q hq).1 hk]
  simp

theorem Holds.has {D : DataW Unit} {L : List (K4 × Int)} (h : Holds D L) (k : K4) (hk : k.wf) : Maps.has D k.l = L.any (fun p => decide (p.1 = k)) := by
  obtain ⟨es, rfl, hp⟩ := h.es
  rw [has_eq, hp.any_eq, any_ent h.wf k hk]

theorem Holds.at {D : DataW Unit} {L : List (K4 × Int)} (h : Holds D L) {k : K4} (hk : k.wf) {c : Int} (hat : ∀ z, D.atKey k.l z = .lit (.int .i64 c)) : (k, c) ∈ L := by
  have hh := has_true_of_atKey hat
  obtain ⟨es, rfl, hp⟩ := h.es
  have h1 := hat .nil
  unfold DataW.atKey at h1
  cases hf : es.find? (fun p => p.1.sameKey k.l) with
  | none =>
    rw [has_eq, List.any_eq_true] at hh
    obtain ⟨p, hp1, hp2⟩ := hh
    exact absurd hp2 (by simpa using List.find?_eq_none.1 hf p hp1)
  | some p =>
    have hm := List.mem_of_find?_eq_some hf
    have hs := List.find?_some hf
    obtain ⟨q, hq, rfl⟩ := List.mem_map.1 (hp.mem_iff.1 hm)
    simp only [ent] at hs
    rw [K4.same (h.wf q hq).1 hk] at hs
    simp only [decide_eq_true_eq] at hs
    simp only [hf, ent] at h1
    injection h1 with h1
    injection h1 with _ h1
    obtain ⟨q1, q2⟩ := q
    subst hs h1
    exact hq

theorem Holds.del {D : DataW Unit} {L : List (K4 × Int)} (h : Holds D L) (k : K4) (hk : k.wf) : Holds (D.del k.l) (L.filter (fun p => decide (p.1 ≠ k))) := by
  obtain ⟨es, rfl, hp⟩ := h.es
  refine ⟨⟨_, DataW.del_eq _ _, ?_⟩, fun p hp => h.wf p (List.mem_filter.1 hp).1, h.nd.sublist ((List.filter_sublist).map _)⟩
  rw [← filter_ent h.wf k hk]
  exact hp.filter _

theorem Holds.put {D : DataW Unit} {L : List (K4 × Int)} (h : Holds D L) (k : K4) (hk : k.wf) {x : Int} (hx : (Lit.int .i64 x).wf = true) (hn : L.any (fun p => decide (p.1 = k)) = false) : Holds (D.put k.l (.lit (.int .i64 x))) (L ++ [(k, x)]) := by
  obtain ⟨es, rfl, hp⟩ := h.es
  have hn2 : ∀ p ∈ L, p.1 ≠ k := fun p hp e => by
    have : L.any (fun p => decide (p.1 = k)) = true := List.any_eq_true.2 ⟨p, hp, by simpa using e⟩
    rw [hn] at this
    cases this
  refine ⟨⟨_, DataW.put_eq _ _ _, ?_⟩, ?_, ?_⟩
  · have h1 := hp.filter (ChangeMaps.notKey k.l)
    have hL : L.filter (fun p => decide (p.1 ≠ k)) = L := List.filter_eq_self.2 (fun p hp => by simpa using hn2 p hp)
    rw [filter_ent h.wf k hk, hL] at h1
    refine (WideShapes.insert_perm _ _).trans ((h1.cons _).trans ?_)
    rw [List.map_append]
    exact List.perm_append_comm (l₁ := [ent (k, x)])
  · intro p hp
    rcases List.mem_append.1 hp with h1 | h1
    · exact h.wf p h1
    · simp at h1
      subst h1
      exact ⟨hk, hx⟩
  · rw [List.map_append, List.nodup_append]
    refine ⟨h.nd, by simp, fun a ha b hb => ?_⟩
    simp at hb
    subst hb
    obtain ⟨p, hp, rfl⟩ := List.mem_map.1 ha
    exact hn2 p hp

/-- Block b is a map that reads as this list. -/
def SM (w : World) (b : Nat) (L : List (K4 × Int)) : Prop := ∃ D : DataW Unit, w.ownsMap Try.prog 25 (plainElem Try.prog 3) b L.length D ∧ Holds D L

theorem tight {w : World} {b n : Nat} {D : DataW Unit} {L : List (K4 × Int)} (h : w.ownsMap Try.prog 25 (plainElem Try.prog 3) b n D) (hh : Holds D L) : SM w b L := by
  have hs := hh.size
  refine ⟨D, ?_, hh⟩
  obtain ⟨es, clock, hb, F, _, rfl⟩ := h
  rw [Maps.size, length_sorted] at hs
  exact ⟨es, clock, hb, F, by simpa using Nat.le_of_eq hs, rfl⟩

/-- The one who saw: a block that leads to the map. -/
structure SS (w : World) (g b : Nat) (L : List (K4 × Int)) : Prop where
  blk : w.heap[g]? = some (.cells #[.map (some b)] 46 (0, 0))
  map : SM w b L

theorem SM.only {w w' : World} {b : Nat} {L : List (K4 × Int)} {S : Nat → Prop} (h : SM w b L) (k : Only S w w') (hn : ¬ S b) : SM w' b L := by
  obtain ⟨D, ⟨es, clock, hb, F, hs, hD⟩, hh⟩ := h
  exact ⟨D, ⟨es, clock, k.blk hb hn, F, hs, hD⟩, hh⟩

theorem SM.ne {w : World} {g b : Nat} {L : List (K4 × Int)} {cs : Array Value} {t : TypeId} (h : SM w b L) (hg : w.heap[g]? = some (.cells cs t (0, 0))) : g ≠ b := by
  rintro rfl
  obtain ⟨D, ⟨es, clock, hb, F, hs, hD⟩, hh⟩ := h
  rw [hb] at hg
  cases hg

theorem SS.only {w w' : World} {g b : Nat} {L : List (K4 × Int)} {S : Nat → Prop} (h : SS w g b L) (k : Only S w w') (hg : ¬ S g) (hb : ¬ S b) : SS w' g b L :=
  ⟨k.blk h.blk hg, h.map.only k hb⟩

theorem SM.lt {w : World} {b : Nat} {L : List (K4 × Int)} (h : SM w b L) : b < w.heap.size := by
  obtain ⟨D, ho, _⟩ := h
  exact ho.lt

theorem plain3 {x : Int} (h : (Lit.int .i64 x).wf = true) : plainElem (H := Unit) Try.prog 3 (.int .i64 x) = some (.lit (.int .i64 x), []) := plainElem_int Try.underlying3 h

theorem invK (key : Value) (kl : Lit) (h : keyOf Try.prog 25 key = some kl) : ∃ x : K4, key = .agg #[.int .i64 x.a, .int .i64 x.b, .int .i64 x.c, .int .i64 x.d] := by
  obtain ⟨k, _, rfl, _⟩ := key_inv h
  exact ⟨k, rfl⟩

theorem invV (v : Value) (y : DataW Unit × List MemPlace) (h : plainElem Try.prog 3 v = some y) : ∃ c : Int, v = .int .i64 c := by
  obtain ⟨c, rfl, _⟩ := plainElem_int_inv Try.underlying3 h
  exact ⟨c, rfl⟩

theorem clamp_p (a : Int) (w : World) : Calls Try.prog 16 #[.int .i64 a] w fun e w' => e = .returned (.int .i64 (cl a)) ∧ w' = w := by
  have h := cl_mn a
  go_enter Try.func16, Try.ntmps16
  go_wp2
  go_ret
  exact ⟨rfl, rfl⟩

theorem only_one {L : List (K4 × Int)} (hn : (L.map Prod.fst).Nodup) {p : K4 × Int} {x : K4} {c : Int} (hp : p ∈ L) (hx : (x, c) ∈ L) (he : p.1 = x) : p.2 = c := by
  induction L with
  | nil => cases hp
  | cons q L ih =>
    rw [List.map_cons, List.nodup_cons] at hn
    rcases List.mem_cons.1 hp with rfl | h1
    · rcases List.mem_cons.1 hx with h2 | h2
      · rw [← h2]
      · exact absurd (List.mem_map.2 ⟨_, h2, he.symm⟩) hn.1
    · rcases List.mem_cons.1 hx with h2 | h2
      · subst h2
        exact absurd (List.mem_map.2 ⟨_, h1, he⟩) hn.1
      · exact ih hn.2 h1 h2

set_option maxRecDepth 100000 in
set_option maxHeartbeats 1000000 in
theorem sweep_p (g b : Nat) (L0 : List (K4 × Int)) (now : Int) (w : World) (h : SS w g b L0) :
    Calls Try.prog 17 #[.pointer (some ⟨g, 0, none⟩), .int .i64 now] w fun e w' => e = .returned (.tuple #[]) ∧ SS w' g b (L0.filter (fun p => decide (now < p.2))) ∧ Only (fun k => k = b) w w' := by
  obtain ⟨hg, D0, hown, hh⟩ := h
  have hne : g ≠ b := SM.ne ⟨D0, hown, hh⟩ hg
  have hc0 : w.cell? ⟨g, 0, none⟩ = some (.map (some b)) := cell_at hg 0 rfl
  have HG := Lib.hid hg
  have HH := Lib.hid hh
  clear hg hh
  go_enter Try.func17, Try.ntmps17
  go_wp2_with (first | (at_range; refine wpList_range_own _ rfl _ 44 rfl 25 3 law Try.underlying44 _ b L0.length D0 rfl hown ?_; intro w0 hrg0 hg0 hs0) | go_in)
  go_frame
  have HO0 : Hid (Only (fun k => k = b) w w0) := Lib.hid ((Only.refl _ w).grown hg0 (by simp))
  have HL0 : Hid (∀ p ∈ L0, has D0 p.1.l = false → now < p.2) := Lib.hid (fun p hp hf => by
    rw [HH.out.has p.1 (HH.out.wf p hp).1] at hf
    have : L0.any (fun q => decide (q.1 = p.1)) = true := List.any_eq_true.2 ⟨p, hp, by simp⟩
    rw [hf] at this
    cases this)
  clear hg0 hs0 hc0 hown
  go_loopw [5] (fun _ wr => ∃ (L : List (K4 × Int)) (D : DataW Unit) (left : Lit → Bool) (cnt : Nat), wr.ranges Try.prog 25 (plainElem Try.prog 3) b w.heap.size L0.length D left cnt ∧ Hid (Holds D L) ∧ Hid (Only (fun k => k = b) w wr) ∧ Hid (L.filter (fun p => decide (now < p.2)) = L0.filter (fun p => decide (now < p.2))) ∧ Hid (∀ p ∈ L, left p.1.l = false → now < p.2)) (fun _ wr => wr.rangeLeft b w.heap.size)
  case atStart => exact ⟨L0, D0, _, _, hrg0, HH, HO0, Lib.hid rfl, HL0⟩
  case round =>
    obtain ⟨L, D, left, cnt, hrg, HHD, HO, HF, HLL⟩ := hrel
    have hc0 : wr.cell? ⟨g, 0, none⟩ = some (.map (some b)) := cell_at (HO.out.blk HG.out hne) 0 rfl
    go_wp2_with (first | (at_next; refine wpList_next_ranges _ rfl _ rfl 25 law (plainElem Try.prog 3) (fun x : K4 => .agg #[.int .i64 x.a, .int .i64 x.b, .int .i64 x.c, .int .i64 x.d]) (fun c : Int => .int .i64 c) invK invV b w.heap.size L0.length _ _ _ rfl hrg ?_ ?_) | go_in)
    · intro _ hl0
      go_wp2
      go_end0
      refine ⟨rfl, ⟨HO.out.blk HG.out hne, tight hrg.owns ?_⟩, HO.out⟩
      rw [← HF.out, List.filter_eq_self.2 (fun p hp => by simpa using HLL.out p hp (hl0 _))]
      exact HHD.out
    · intro x c kl yd yp w1 cnt1 hkey hlx hy hat hrg1 hlt hg1 hs1 hen
      obtain ⟨x', hwx, hxv, rfl⟩ := key_inv hkey
      obtain rfl : x = x' := K4.v_inj hxv
      obtain ⟨c', hc1, hc2, hwc⟩ := plainElem_int_inv Try.underlying3 hy
      obtain rfl : c = c' := by simpa using hc1
      obtain rfl : yd = .lit (.int .i64 c) := congrArg Prod.fst hc2
      have HMEM : Hid ((x, c) ∈ L) := Lib.hid (HHD.out.at hwx hat)
      have HWX := Lib.hid hwx
      have hgn : w.heap.size ≠ g := by have := blk_lt HG.out; omega
      have hbn : w.heap.size ≠ b := hrg.ne
      have HO1 : Hid (Only (fun k => k = b) w w1) := Lib.hid (HO.out.grown hg1 (fun k hk => by simp at hk; omega))
      have hd0 : w1.cell? ⟨g, 0, none⟩ = some (.map (some b)) := cell_at (HO1.out.blk HG.out hne) 0 rfl
      clear hkey hxv hc1 hc2 hy hg1 hs1 hc0
      by_cases hcn : c ≤ now
      · have HO2 : Hid (Only (fun k => k = b) w (w1.alloc (.cells #[.int .i64 x.a, .int .i64 x.b, .int .i64 x.c, .int .i64 x.d] 25))) := Lib.hid (HO1.out.alloc _)
        have he0 : (w1.alloc (.cells #[.int .i64 x.a, .int .i64 x.b, .int .i64 x.c, .int .i64 x.d] 25)).cell? ⟨g, 0, none⟩ = some (.map (some b)) := cell_at (HO2.out.blk HG.out hne) 0 rfl
        have hrg2 := hrg1.alloc (.cells #[.int .i64 x.a, .int .i64 x.b, .int .i64 x.c, .int .i64 x.d] 25)
        have hk := heap_alloc_new w1 (.cells #[.int .i64 x.a, .int .i64 x.b, .int .i64 x.c, .int .i64 x.d] 25)
        go_wp2
        generalize w1.alloc (.cells #[.int .i64 x.a, .int .i64 x.b, .int .i64 x.c, .int .i64 x.d] 25) = w2 at *
        generalize w1.heap.size = q at *
        have hk0 : w2.cell? ⟨q, 0, none⟩ = some (.int .i64 x.a) := cell_at hk 0 rfl
        have hk1 : w2.cell? ⟨q, 1, none⟩ = some (.int .i64 x.b) := cell_at hk 1 rfl
        have hk2 : w2.cell? ⟨q, 2, none⟩ = some (.int .i64 x.c) := cell_at hk 2 rfl
        have hk3 : w2.cell? ⟨q, 3, none⟩ = some (.int .i64 x.d) := cell_at hk 3 rfl
        clear hk
        go_still_tail 5, (by kernel_rfl)
        repeat still_step
        change wpList _ _ _ _ _ w2.drew
        have hrg2d : w2.drew.ranges Try.prog 25 (plainElem Try.prog 3) b w.heap.size L0.length D (fun z => left z && !z.sameKey x.l) cnt1 := hrg2
        go_wp2_with (at_delete; go_loud (refine wpList_delete_ranges _ rfl _ _ 44 25 rfl 3 law Try.underlying44 _ b w.heap.size L0.length _ _ _ rfl hrg2d _ _ rfl (key_of x HWX.out) ?_; intro w3 cnt2 hrg3 hle hturn; go_frame))
        rw [strike_twice] at hrg3
        go_roundw
        case rel =>
          refine ⟨L.filter (fun p => decide (p.1 ≠ x)), _, _, cnt2, hrg3, Lib.hid (HHD.out.del x HWX.out), Lib.hid ((HO2.out.drew).grown hturn.grown (fun k hk => .inl (by simpa using hk.symm))), Lib.hid ?_, Lib.hid (fun p hp hf => ?_)⟩
          · rw [← HF.out, List.filter_filter]
            refine List.filter_congr fun p hp => ?_
            by_cases he : p.1 = x
            · have := only_one HHD.out.nd hp HMEM.out he
              have hcn2 : ¬ now < p.2 := by omega
              simp [hcn2]
            · simp [he]
          · obtain ⟨hp1, hp2⟩ := List.mem_filter.1 hp
            rw [K4.same (HHD.out.wf p hp1).1 HWX.out] at hf
            have he : p.1 ≠ x := by simpa using hp2
            exact HLL.out p hp1 (by simpa [he] using hf)
        case measure => rw [hrg3.left_eq, hrg.left_eq]; omega
      · go_wp2
        go_roundw
        case rel =>
          refine ⟨L, D, _, cnt1, hrg1.alloc _, HHD, Lib.hid (HO1.out.alloc _), HF, Lib.hid (fun p hp hf => ?_)⟩
          by_cases he : p.1 = x
          · have := only_one HHD.out.nd hp HMEM.out he
            omega
          · rw [K4.same (HHD.out.wf p hp).1 HWX.out] at hf
            exact HLL.out p hp (by simpa [he] using hf)
        case measure => rw [(hrg1.alloc _).left_eq, hrg.left_eq]; exact hlt

end Go.Proofs.Ytlgibnjhegoefaa.Sn

/- Ring: keys; loads; a map of counts; how many keys go to each, in plain Lean. -/
import Derived.Test.YtbjepnneklnenaaRgG
import Derived.Test.YtbjepnneklnenaaArgs
import Derived.Maps.OwnSet
import Derived.Maps.OwnOps
import Derived.Maps.Ext
import Derived.Maps.Views
set_option linter.unusedVariables false
set_option linter.unusedSimpArgs false
set_option maxRecDepth 100000
namespace Go.Proofs.Ytbjepnneklnenaa.Rg
open Go.RowKit Go.Maps Go.Shelf Go.Lib Go.Sort Go.Proofs.Ytbjepnneklnenaa.Base Go.Proofs.Ytbjepnneklnenaa.Rws Go.Proofs.Ytbjepnneklnenaa.Crc Go.Proofs.YtbjepnneklnenaaW.PrintWords Go.Proofs.YtbjepnneklnenaaW.PrintMore
attribute [local go_sem] max2_mx min2_mn max_two min_two max_three min_three max_four min_four

/-! ### Keys -/
/-- Keys at A. -/
def RdS (w : World) (A : Option Addr) (l : List ByteArray) : Prop := ∀ j x, l[j]? = some x → ∃ a, A = some a ∧ w.cell? (a.add j) = some (.string x)
theorem RdS.only {w w' : World} {A : Option Addr} {l : List ByteArray} (h : RdS w A l) (ho : Only (fun _ => False) w w') : RdS w' A l := fun j x hx => by
  obtain ⟨a, ha, hv⟩ := h j x hx
  refine ⟨a, ha, ?_⟩
  have := (ho.below (Below.refl _ _) (Nat.le_refl _) (fun _ h => h.elim)).cell (World.block_lt_of_cell? w _ hv)
  rw [hv] at this
  exact this

theorem strs_of {e : TypeId} {w : World} {A : Option Addr} {len : Nat} (hone : Try.prog.cellsOf e = 1) (h : ∀ i, i < len → ∃ a, A = some a ∧ ∀ o k, (o, k) ∈ [(0, Args.Bs.string)] → ∃ v, w.cell? (a.add (i * Try.prog.cellsOf e + o)) = some v ∧ k.fit v) :
    ∃ ks : List ByteArray, ks.length = len ∧ RdS w A ks := by
  have h2 : ∀ i, ∃ b : ByteArray, i < len → ∃ a, A = some a ∧ w.cell? (a.add i) = some (.string b) := by
    intro i
    by_cases hi : i < len
    · obtain ⟨a, hA, hc⟩ := h i hi
      rw [hone, Nat.mul_one] at hc
      obtain ⟨v, hv, b, rfl, _⟩ := hc 0 .string (by simp)
      exact ⟨b, fun _ => ⟨a, hA, hv⟩⟩
    · exact ⟨ByteArray.empty, fun hh => absurd hh hi⟩
  obtain ⟨f, hf⟩ := Classical.axiomOfChoice h2
  refine ⟨(List.range len).map f, by simp, fun j x hx => ?_⟩
  have hj : j < len := by
    have := (List.getElem?_eq_some_iff.1 hx).1
    simpa using this
  obtain ⟨a, hA, hc⟩ := hf j hj
  refine ⟨a, hA, ?_⟩
  have : x = f j := by
    rw [List.getElem?_map, List.getElem?_range hj] at hx
    simpa using hx.symm
  rw [this]
  exact hc

/-! ### Loads -/
theorem info40 : (Try.prog.info? 40).map (fun i => (i.zero, i.size, i.bytes)) = some (some (.agg #[.int .i64 0, .int .i64 0]), 2, 16) := by kernel_rfl

def encL (t : Int × Int) : List Value := [.int .i64 t.1, .int .i64 t.2]

/-- Loads of the call's own. -/
def Ls (w : World) (P : Nat → Prop) (v : Value) (L : List (Int × Int)) : Prop := Row 2 40 w P v L.length (L.flatMap encL)

theorem Ls.app {W : World} {P : Nat → Prop} {v : Value} {L : List (Int × Int)} (h : Ls W P v L) (hP : ∀ k, W.heap.size ≤ k → P k) (hl : L.length ≤ 20000) (x : Int × Int) (ty : TypeId) :
    ∃ v1 w1, (Builtin.append_ #[37, 37] ty #[v, .slice (some ⟨W.heap.size, 0, none⟩) 1 1]).run Try.prog (W.alloc (.cells #[.int .i64 x.1, .int .i64 x.2] 40)) = .ok v1 w1 ∧ Ls w1 P v1 (L ++ [x]) ∧ Only (fun k => v.ownBlock = some k) W w1 := by
  have hO : Only (fun k => v.ownBlock = some k) W (W.alloc (.cells #[.int .i64 x.1, .int .i64 x.2] 40)) := (Only.refl _ W).alloc _
  have hnew := heap_alloc_new W (.cells #[.int .i64 x.1, .int .i64 x.2] 40)
  have hrow : Row 2 40 (W.alloc (.cells #[.int .i64 x.1, .int .i64 x.2] 40)) P v L.length (L.flatMap encL) := Row.keep h (fun g _ hg => heap_alloc_old W _ _ hg)
  have hsz : (W.alloc (.cells #[.int .i64 x.1, .int .i64 x.2] 40)).heap.size = W.heap.size + 1 := by show (W.heap.push _).size = _; simp
  generalize W.alloc (.cells #[.int .i64 x.1, .int .i64 x.2] 40) = W1 at *
  obtain ⟨v1, w1, hr, hR, ho⟩ := Row.app (ty := ty) hrow Try.underlying37 info40 (by rfl) (fun k hk => hP k (by omega)) ⟨W.heap.size, 0, none⟩ 1 1 (encL x) (by simp [encL]) (fun i u hu => by
    rw [Addr.add_lit, Nat.zero_add]
    refine cell_at hnew i ?_
    simpa [encL] using hu) (by simp [encL, Value.oneCell']) (by omega) (by omega) (by omega)
  refine ⟨v1, w1, hr, ?_, hO.trans ho⟩
  unfold Ls
  rw [List.length_append, List.length_singleton, List.flatMap_append]
  simpa using hR

theorem encL_at : ∀ (L : List (Int × Int)) (i j : Nat) (p : Int × Int), L[i]? = some p → j < 2 → (L.flatMap encL)[i * 2 + j]? = (encL p)[j]?
  | [], i, j, p, h, _ => by simp at h
  | q :: L, 0, j, p, h, hj => by
    simp at h
    subst h
    rw [List.flatMap_cons, Nat.zero_mul, Nat.zero_add, List.getElem?_append_left (by simpa [encL] using hj)]
  | q :: L, i + 1, j, p, h, hj => by
    rw [List.flatMap_cons, List.getElem?_append_right (by simp [encL]; omega)]
    rw [show (i + 1) * 2 + j - (encL q).length = i * 2 + j by simp [encL]; omega]
    exact encL_at L i j p (by simpa using h) hj

/-! ### A map of counts -/
theorem law : Keyed Try.prog 3 := int_keyed Try.underlying3
theorem plain3 {x : Int} (h : (Lit.int .i64 x).wf = true) : plainElem (H := Unit) Try.prog 3 (.int .i64 x) = some (.lit (.int .i64 x), []) := plainElem_int Try.underlying3 h
theorem wf64 {x : Int} (h0 : -9223372036854775808 ≤ x) (h1 : x ≤ 9223372036854775807) : (Lit.int .i64 x).wf = true := WalkArith.wf_i64 ⟨h0, h1⟩

/-- The map reads as how often each number is in a list. -/
def Counts (D : DataW Unit) (is : List Int) : Prop := ∀ k, (Lit.int .i64 k).wf = true → D.atKey (.int .i64 k) (.lit (.int .i64 0)) = .lit (.int .i64 (is.count k : Nat))

/-- Block b is a map of counts. -/
def Ct (w : World) (b : Nat) (is : List Int) : Prop := ∃ (D : DataW Unit) (n : Nat), w.ownsMap Try.prog 3 (plainElem Try.prog 3) b n D ∧ n ≤ is.length ∧ Counts D is

theorem Ct.only {w w' : World} {b : Nat} {is : List Int} {S : Nat → Prop} (h : Ct w b is) (k : Only S w w') (hn : ¬ S b) : Ct w' b is := by
  obtain ⟨D, n, ⟨es, clock, hb, F, hs, hD⟩, hh⟩ := h
  exact ⟨D, n, ⟨es, clock, k.blk hb hn, F, hs, hD⟩, hh⟩

theorem Ct.neRow {w : World} {b : Nat} {is : List Int} (h : Ct w b is) {sz : Nat} {e : TypeId} {P : Nat → Prop} {v : Value} {n : Nat} {xs : List Value} (hr : Row sz e w P v n xs) : v.ownBlock ≠ some b := by
  obtain ⟨D, m, ⟨es, clock, hg, F, hs, hD⟩, hh⟩ := h
  intro hv
  rcases hr with ⟨rfl, _⟩ | ⟨q, o, c, cells, rfl, _, hh, _⟩
  · simp [Value.ownBlock] at hv
  · simp [Value.ownBlock] at hv
    subst hv
    rw [hh] at hg
    cases hg

theorem Ct.look {w : World} {b : Nat} {is : List Int} (h : Ct w b is) (k : Int) (hk : (Lit.int .i64 k).wf = true) :
    (Instr.lookup 62 (.map (some b)) (.int .i64 k) false).run Try.prog w = .ok (.int .i64 (is.count k : Nat)) w := by
  obtain ⟨D, n, ho, _, hc⟩ := h
  have hz : ∀ W : World, (zeroValue 3).run Try.prog W = .ok (.int .i64 0) W := fun W => by kernel_rfl
  obtain ⟨c, hr, hat, _⟩ := ho.lookup_int law Try.underlying62 Try.underlying3 (hz _) (Maps.keyOf_int_mk Try.underlying3 hk)
  rw [hc k hk] at hat
  injection hat with hat
  injection hat with _ hat
  rw [hat]
  exact hr

theorem key_ne {k k' : Int} (h : k' ≠ k) : (Lit.int .i64 k') ≠ .int .i64 k := fun e => h (by injection e)

/-- One more of one number. -/
theorem Counts.put {D : DataW Unit} {is : List Int} (h : Counts D is) (hm : IsMap D) (k : Int) (hwk : (Lit.int .i64 k).wf = true) : Counts (D.put (.int .i64 k) (.lit (.int .i64 ((is.count k : Nat) + 1 : Int)))) (is ++ [k]) := by
  have hkl : WideAt.IsKeyLit (.int .i64 k) := law.key (Maps.keyOf_int_mk Try.underlying3 hwk)
  intro j hj
  by_cases e : j = k
  · subst e
    rw [atKey_put_same hm hkl, List.count_append]
    simp
  · rw [atKey_put_other (key_ne e), h j hj, List.count_append, List.count_singleton]
    have : ¬ (k == j) = true := by simp; exact fun h => e h.symm
    rw [if_neg this]
    simp

/-! ### How many go to each -/
theorem sum_map_add {α : Type} (f g : α → Nat) : ∀ (S : List α), (S.map (fun m => f m + g m)).sum = (S.map f).sum + (S.map g).sum
  | [] => rfl
  | m :: S => by
    rw [List.map_cons, List.map_cons, List.map_cons, List.sum_cons, List.sum_cons, List.sum_cons, sum_map_add f g S]
    omega

theorem sum_one (x : Int) : ∀ (S : List Int), S.Nodup → x ∈ S → (S.map (fun m => if x = m then 1 else 0)).sum = 1
  | [], _, h => by cases h
  | m :: S, hn, h => by
    rw [List.nodup_cons] at hn
    rw [List.map_cons, List.sum_cons]
    by_cases e : x = m
    · subst e
      have : (S.map (fun m => if x = m then 1 else 0)).sum = 0 := by
        have : S.map (fun m => if x = m then 1 else 0) = S.map (fun _ => 0) := List.map_congr_left (fun a ha => by
          rw [if_neg]
          intro e
          exact hn.1 (e ▸ ha))
        rw [this]
        clear this hn h
        induction S with
        | nil => rfl
        | cons a S ih => rw [List.map_cons, List.sum_cons, ih]
      rw [this, if_pos rfl]
    · rw [if_neg e, sum_one x S hn.2 (by
        rcases List.mem_cons.1 h with h | h
        · exact absurd h e
        · exact h)]

theorem sum_count (S : List Int) (hn : S.Nodup) : ∀ (os : List Int), (∀ x ∈ os, x ∈ S) → (S.map (fun m => os.count m)).sum = os.length
  | [], _ => by
    induction S with
    | nil => rfl
    | cons a S ih => rw [List.map_cons, List.sum_cons, ih (List.nodup_cons.1 hn).2 (fun x h => by cases h)]; rfl
  | x :: os, h => by
    have h1 : S.map (fun m => (x :: os).count m) = S.map (fun m => os.count m + (if x = m then 1 else 0)) := List.map_congr_left (fun m _ => by
      rw [List.count_cons]
      by_cases e : x = m
      · simp [e]
      · simp [e])
    rw [h1, sum_map_add, sum_count S hn os (fun y hy => h y (List.mem_cons_of_mem _ hy)), sum_one x S hn (h x (by simp))]
    rfl

theorem wout_len {l : List Int} (hn : l.Nodup) {m : Int} (hm : m ∈ l) : (wout l m).length + 1 = l.length := by
  induction l with
  | nil => cases hm
  | cons x l ih =>
    rw [List.nodup_cons] at hn
    by_cases e : x = m
    · subst e
      have : wout (x :: l) x = l := by
        unfold wout
        rw [List.filter_cons, if_neg (by simp)]
        refine List.filter_eq_self.2 (fun a ha => decide_eq_true (fun e => hn.1 (e ▸ ha)))
      rw [this, List.length_cons]
    · have hml : m ∈ l := by
        rcases List.mem_cons.1 hm with h | h
        · exact absurd h.symm e
        · exact h
      have : wout (x :: l) m = x :: wout l m := by
        unfold wout
        rw [List.filter_cons, if_pos (decide_eq_true e)]
      rw [this, List.length_cons, List.length_cons, ih hn.2 hml]

/-- Loads of some members. -/
def loads (S os : List Int) : List (Int × Int) := S.map (fun m => (m, (os.count m : Nat)))

theorem srt_lt {l : List Int} (hn : l.Nodup) {i : Nat} {a b : Int} (ha : (srt l)[i]? = some a) (hb : (srt l)[i + 1]? = some b) : a < b := by
  obtain ⟨h1, e1⟩ := List.getElem?_eq_some_iff.1 ha
  obtain ⟨h2, e2⟩ := List.getElem?_eq_some_iff.1 hb
  have h3 := srt_le (l := l) (i := i) (j := i + 1) (by omega) h2
  have h4 := (List.pairwise_iff_getElem.1 (List.nodup_iff_pairwise_ne.1 ((srt_perm l).nodup_iff.2 hn))) i (i + 1) h1 h2 (by omega)
  rw [e1, e2] at h3 h4
  omega
end Go.Proofs.Ytbjepnneklnenaa.Rg

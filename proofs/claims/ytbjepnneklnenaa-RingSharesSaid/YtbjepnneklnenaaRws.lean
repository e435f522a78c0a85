/- Rows of cells of the call's own, wherever in their block they begin, and what is put behind them. Over any program; no condition. -/
import Derived.Test.YtbjepnneklnenaaBase
import Derived.Laws.AppendOwn
import Derived.Laws.CopyRow
set_option linter.unusedVariables false
set_option linter.unusedSimpArgs false
namespace Go.Proofs.Ytbjepnneklnenaa.Rws
open Go.RowKit Go.Proofs.Ytbjepnneklnenaa.Base Go.Proofs.YtbjepnneklnenaaW.PrintWords Go.Proofs.YtbjepnneklnenaaW.PrintMore

/-- n elements of sz cells each (type e) that hold these values, in a block that P lets be. -/
def Row (sz : Nat) (e : TypeId) (w : World) (P : Nat → Prop) (v : Value) (n : Nat) (xs : List Value) : Prop :=
  (v = .slice none 0 0 ∧ n = 0 ∧ xs = []) ∨ ∃ (g o c : Nat) (cells : Array Value), v = .slice (some ⟨g, o, none⟩) n c ∧ P g ∧ w.heap[g]? = some (.cells cells e (0, 0)) ∧ (n ≤ c ∧ c ≤ maxLen) ∧ o + c * sz ≤ cells.size ∧ xs.length = n * sz ∧ ∀ (j : Nat) (u : Value), xs[j]? = some u → cells[o + j]? = some u

section
variable {sz : Nat} {e : TypeId} {w w' : World} {P Q S : Nat → Prop} {v : Value} {n : Nat} {xs : List Value}

theorem Row.nil (sz : Nat) (e : TypeId) (w : World) (P : Nat → Prop) : Row sz e w P (.slice none 0 0) 0 [] := .inl ⟨rfl, rfl, rfl⟩

theorem Row.len (h : Row sz e w P v n xs) : xs.length = n * sz := by
  rcases h with ⟨_, rfl, rfl⟩ | ⟨g, o, c, cells, _, _, _, _, _, h, _⟩
  · simp
  · exact h

theorem Row.keep (h : Row sz e w P v n xs) (hk : ∀ g, v.ownBlock = some g → g < w.heap.size → w'.heap[g]? = w.heap[g]?) : Row sz e w' P v n xs := by
  rcases h with h | ⟨g, o, c, cells, hv, hg, hh, h1, h2, h3, h4⟩
  · exact .inl h
  · exact .inr ⟨g, o, c, cells, hv, hg, (hk g (by rw [hv]; simp [Value.ownBlock]) (blk_lt hh)).trans hh, h1, h2, h3, h4⟩

theorem Row.only (h : Row sz e w P v n xs) (k : Only S w w') (hn : ∀ g, v.ownBlock = some g → ¬ S g) : Row sz e w' P v n xs :=
  h.keep (fun g hg hlt => k.block g hlt (hn g hg))

theorem Row.own (h : Row sz e w P v n xs) {k : Nat} (hk : v.ownBlock = some k) : P k ∧ k < w.heap.size := by
  rcases h with ⟨rfl, _⟩ | ⟨g, o, c, cells, rfl, hg, hh, _⟩
  · simp [Value.ownBlock] at hk
  · simp [Value.ownBlock] at hk
    subst hk
    exact ⟨hg, blk_lt hh⟩

theorem Row.to (h : Row sz e w P v n xs) (hs : ∀ k, v.ownBlock = some k → Q k) : Row sz e w Q v n xs := by
  rcases h with h | ⟨g, o, c, cells, rfl, hg, r⟩
  · exact .inl h
  · exact .inr ⟨g, o, c, cells, rfl, hs g (by simp [Value.ownBlock]), r⟩

/-- The block of a row is no block of another type. -/
theorem Row.ne (h : Row sz e w P v n xs) {g : Nat} {cs : Array Value} {t : TypeId} (hg : w.heap[g]? = some (.cells cs t (0, 0))) (ht : t ≠ e) : v.ownBlock ≠ some g := by
  intro hv
  rcases h with ⟨rfl, _⟩ | ⟨q, o, c, cells, rfl, _, hh, _⟩
  · simp [Value.ownBlock] at hv
  · simp [Value.ownBlock] at hv
    subst hv
    rw [hh] at hg
    simp at hg
    exact ht hg.2.symm

theorem Row.form (h : Row sz e w P v n xs) : ∃ A c, v = .slice A n c ∧ n ≤ c := by
  rcases h with ⟨rfl, rfl, _⟩ | ⟨g, o, c, cells, rfl, _, _, h1, _⟩
  · exact ⟨_, _, rfl, Nat.le_refl _⟩
  · exact ⟨_, _, rfl, h1.1⟩

theorem Row.cap {A : Option Addr} {c : Nat} (h : Row sz e w P (.slice A n c) n xs) : c ≤ maxLen := by
  rcases h with ⟨h, _⟩ | ⟨g, o, c', cells, h, _, _, h1, _⟩
  · injection h with _ _ h
    rw [h]
    exact Nat.zero_le _
  · injection h with _ _ h
    rw [h]
    exact h1.2

theorem Row.some_ (h : Row sz e w P v n xs) (hn : 0 < n) : ∃ g o c, v = .slice (some ⟨g, o, none⟩) n c ∧ n ≤ c := by
  rcases h with ⟨_, rfl, _⟩ | ⟨g, o, c, cells, rfl, _, _, h1, _⟩
  · omega
  · exact ⟨g, o, c, rfl, h1.1⟩

theorem Row.cell {g o c : Nat} (h : Row sz e w P (.slice (some ⟨g, o, none⟩) n c) n xs) (j : Nat) {u : Value} (hu : xs[j]? = some u) : w.cell? ⟨g, o + j, none⟩ = some u := by
  rcases h with ⟨h, _⟩ | ⟨g', o', c', cells, hv, _, hh, _, _, _, h4⟩
  · cases h
  · injection hv with e1 e2 e3
    injection e1 with e1
    injection e1 with e4 e5
    subst e3 e4 e5
    exact cell_at hh (o + j) (h4 j u hu)

theorem Row.frozen {g o c : Nat} (h : Row sz e w P (.slice (some ⟨g, o, none⟩) n c) n xs) (j : Nat) : w.frozen? ⟨g, o + j, none⟩ = false := by
  rcases h with ⟨h, _⟩ | ⟨g', o', c', cells, hv, _, hh, _⟩
  · cases h
  · injection hv with e1 e2 e3
    injection e1 with e1
    injection e1 with e4 e5
    subst e3 e4 e5
    exact blk_frozen hh _

/-- The first k are cut away. -/
theorem Row.cut {g o c : Nat} (h : Row sz e w P (.slice (some ⟨g, o, none⟩) n c) n xs) (k : Nat) (hk : k ≤ n) : Row sz e w P (.slice (some ⟨g, o + k * sz, none⟩) (n - k) (c - k)) (n - k) (xs.drop (k * sz)) := by
  rcases h with ⟨h, _⟩ | ⟨g', o', c', cells, hv, hg, hh, h1, h2, h3, h4⟩
  · cases h
  · injection hv with e1 e2 e3
    injection e1 with e1
    injection e1 with e4 e5
    subst e3 e4 e5
    refine .inr ⟨g, o + k * sz, c - k, cells, rfl, hg, hh, by omega, ?_, ?_, fun j u hu => ?_⟩
    · have : k * sz + (c - k) * sz = c * sz := by rw [← Nat.add_mul]; congr 1; omega
      omega
    · rw [List.length_drop, h3, Nat.sub_mul]
    · rw [List.getElem?_drop] at hu
      rw [Nat.add_assoc]
      exact h4 _ u hu

/-- The first k alone, with all the room behind them. -/
theorem Row.pre {g o c : Nat} (h : Row sz e w P (.slice (some ⟨g, o, none⟩) n c) n xs) (k : Nat) (hk : k ≤ n) : Row sz e w P (.slice (some ⟨g, o, none⟩) k c) k (xs.take (k * sz)) := by
  rcases h with ⟨h, _⟩ | ⟨g', o', c', cells, hv, hg, hh, h1, h2, h3, h4⟩
  · cases h
  · injection hv with e1 e2 e3
    injection e1 with e1
    injection e1 with e4 e5
    subst e3 e4 e5
    refine .inr ⟨g, o, c, cells, rfl, hg, hh, by omega, h2, ?_, fun j u hu => ?_⟩
    · rw [List.length_take, h3]
      exact Nat.min_eq_left (Nat.mul_le_mul_right _ hk)
    · rw [List.getElem?_take] at hu
      split at hu
      · exact h4 j u hu
      · cases hu
end

section
variable {Pr : Program} {W : World} {sz bytes : Nat} {t e ty : TypeId} {z : Value} {P : Nat → Prop} {v : Value} {n : Nat} {xs : List Value}

theorem room (ht : Pr.underlying t = some (.slice e)) (hinfo : (Pr.info? e).map (fun i => (i.zero, i.size, i.bytes)) = some (some z, sz, bytes)) {g o c : Nat} {cells : Array Value} (hg : W.heap[g]? = some (.cells cells e (0, 0)))
    (a : Addr) (m c2 : Nat) (news : List Value) (hl : news.length = m * sz) (hnews : ∀ j u, news[j]? = some u → W.cell? (a.add j) = some u) (h1 : ∀ u ∈ news, u.oneCell' = true) (hn : n + m ≤ c) (hc : o + c * sz ≤ cells.size) :
    (Builtin.append_ #[t, t] ty #[.slice (some ⟨g, o, none⟩) n c, .slice (some a) m c2]).run Pr W = .ok (.slice (some ⟨g, o, none⟩) (n + m) c) (W.setRow g (cells.toList.take (o + n * sz) ++ news ++ cells.toList.drop (o + n * sz + news.length)).toArray) := by
  obtain ⟨i, hi, hzz⟩ := Option.map_eq_some_iff.1 hinfo
  simp only [Prod.mk.injEq] at hzz
  obtain ⟨hz0, hz1, hz2⟩ := hzz
  have hf := run_firstCells_some (P := Pr) W i.size m a m c2 news (by rw [hz1]; exact hl) hnews
  have hle : n * sz + m * sz ≤ c * sz := by rw [← Nat.add_mul]; exact Nat.mul_le_mul_right _ hn
  have hst := run_storeCells_at Pr g (o + n * sz) e news 0 cells W hg (by simp; omega) h1
  simp only [Nat.add_zero] at hst
  rw [hz1] at hf
  simp [Builtin.append_, run_underlying ht, sizeOf, typeInfo, hi, hz1, Builtin.lenOf, hn, hf, Addr.add_lit, hst]

/-- What is put behind a row: the row with it, in its block or in a new one. -/
theorem Row.app (hL : Row sz e W P v n xs) (ht : Pr.underlying t = some (.slice e)) (hinfo : (Pr.info? e).map (fun i => (i.zero, i.size, i.bytes)) = some (some z, sz, bytes)) (hzs : z.cells.size = sz) (hbase : ∀ k, W.heap.size ≤ k → P k)
    (a : Addr) (m c2 : Nat) (news : List Value) (hl : news.length = m * sz) (hnews : ∀ j u, news[j]? = some u → W.cell? (a.add j) = some u) (h1 : ∀ u ∈ news, u.oneCell' = true) (hm : 0 < m) (hb : n + m ≤ 100000) (hby : bytes ≤ 1000) :
    ∃ v1 w1, (Builtin.append_ #[t, t] ty #[v, .slice (some a) m c2]).run Pr W = .ok v1 w1 ∧ Row sz e w1 P v1 (n + m) (xs ++ news) ∧ Only (fun k => v.ownBlock = some k) W w1 := by
  obtain ⟨i, hi, hzz⟩ := Option.map_eq_some_iff.1 hinfo
  simp only [Prod.mk.injEq] at hzz
  obtain ⟨hz0, hz1, hz2⟩ := hzz
  have hlen := hL.len
  have hbb : (n + m) * bytes ≤ 100000 * 1000 := Nat.mul_le_mul hb hby
  rcases hL with ⟨rfl, rfl, rfl⟩ | ⟨g, o, c, cells, rfl, hg, hh, hn, h2, h3, h4⟩
  · rw [Nat.zero_add] at hbb
    have hr := run_append_nil (P := Pr) (w := W) t ty e i z ht hi hz0 a m c2 news (by rw [hz1]; exact hl) hnews hm (by omega) (by rw [hz2]; omega)
    have hge := grownCap_ge W m 0 e
    refine ⟨_, _, hr, .inr ⟨W.heap.size, 0, grownCap W m 0 e, _, by simp, hbase _ (Nat.le_refl _), heap_alloc_new W.drew _, ⟨by simpa using hge, grownCap_le_maxLen W m 0 e (Nat.le_trans (by omega : m ≤ 100000) (by decide))⟩, ?_, by simpa using hl, ?_⟩, ((Only.refl _ W).drew).alloc _⟩
    · simp only [Array.size_append, List.size_toArray, size_zeroCells, hzs, hl]
      rw [← Nat.add_mul, Nat.zero_add]
      exact Nat.mul_le_mul_right _ (by omega)
    · intro j u hu
      rw [Nat.zero_add, Array.getElem?_append_left (by simpa using (List.getElem?_eq_some_iff.1 hu).1)]
      simpa using hu
  · have hnc := hn.1
    by_cases hroom : n + m ≤ c
    · have hr := room (ty := ty) ht hinfo hh a m c2 news hl hnews h1 hroom h2
      have hle : n * sz + m * sz ≤ c * sz := by rw [← Nat.add_mul]; exact Nat.mul_le_mul_right _ hroom
      have hq : cells.toList.length = cells.size := Array.length_toList
      refine ⟨_, _, hr, .inr ⟨g, o, c, _, rfl, hg, setRow_heap W g cells _ e (0, 0) hh, ⟨hroom, hn.2⟩, ?_, by rw [List.length_append, h3, hl, Nat.add_mul], ?_⟩, ⟨rfl, rfl, rfl, by simp, fun k _ hn => setRow_other W g k _ (fun e => hn (by rw [e]; simp [Value.ownBlock]))⟩⟩
      · simp only [List.size_toArray, List.length_append, List.length_take, List.length_drop, hq, hl]
        omega
      · intro j u hu
        have hlt : (cells.toList.take (o + n * sz)).length = o + n * sz := by rw [List.length_take]; omega
        rw [List.getElem?_toArray, List.append_assoc]
        by_cases hj : j < xs.length
        · rw [List.getElem?_append_left hj] at hu
          rw [List.getElem?_append_left (by rw [hlt]; omega), List.getElem?_take, if_pos (by omega), Array.getElem?_toList]
          exact h4 j u hu
        · rw [List.getElem?_append_right (by omega)] at hu
          have hj2 : j - xs.length < news.length := (List.getElem?_eq_some_iff.1 hu).1
          rw [List.getElem?_append_right (by rw [hlt]; omega), hlt, List.getElem?_append_left (by omega)]
          rw [← hu]
          congr 1
          omega
    · have hr := run_append_grow (P := Pr) (w := W) t ty e i z ht hi hz0 ⟨g, o, none⟩ n c xs (by rw [hz1]; exact h3) (fun j u hu => by rw [Addr.add_lit]; exact cell_at hh (o + j) (h4 j u hu)) a m c2 news (by rw [hz1]; exact hl) hnews (by omega) (by omega) (growslice_fits (by omega) (by rw [hz2]; omega))
      have hge := grownCap_ge W (n + m) c e
      refine ⟨_, _, hr, .inr ⟨W.heap.size, 0, grownCap W (n + m) c e, _, rfl, hbase _ (Nat.le_refl _), heap_alloc_new W.drew _, ⟨hge, grownCap_le_maxLen W (n + m) c e (Nat.le_trans hb (by decide))⟩, ?_, by rw [List.length_append, h3, hl, Nat.add_mul], ?_⟩, ((Only.refl _ W).drew).alloc _⟩
      · simp only [Array.size_append, List.size_toArray, size_zeroCells, hzs, hl, h3]
        rw [← Nat.add_mul, ← Nat.add_mul, Nat.zero_add]
        exact Nat.mul_le_mul_right _ (by omega)
      · intro j u hu
        have hj := (List.getElem?_eq_some_iff.1 hu).1
        rw [Nat.zero_add, Array.getElem?_append_left (by simpa using hj)]
        simpa [List.append_toArray] using hu

/-- Nothing is put behind a row. -/
theorem Row.app0 (hL : Row sz e W P v n xs) (ht : Pr.underlying t = some (.slice e)) (hinfo : (Pr.info? e).map (fun i => (i.zero, i.size, i.bytes)) = some (some z, sz, bytes)) (A : Option Addr) (c2 : Nat) :
    (Builtin.append_ #[t, t] ty #[v, .slice A 0 c2]).run Pr W = .ok v W := by
  obtain ⟨i, hi, hzz⟩ := Option.map_eq_some_iff.1 hinfo
  have hf : (Builtin.firstCells i.size 0 (.slice A 0 c2)).run Pr W = .ok #[] W := by
    cases A with
    | none => exact run_firstCells_none _ _ _ _ _
    | some a => exact run_firstCells_some (P := Pr) W i.size 0 a 0 c2 [] (by simp) (by simp)
  rcases hL with ⟨rfl, rfl, rfl⟩ | ⟨g, o, c, cells, rfl, hg, hh, hn, h2, h3, h4⟩
  · simp [Builtin.append_, run_underlying ht, sizeOf, typeInfo, hi, Builtin.lenOf, hf, storeCells]
  · simp [Builtin.append_, run_underlying ht, sizeOf, typeInfo, hi, Builtin.lenOf, hf, storeCells, hn]
end

end Go.Proofs.Ytbjepnneklnenaa.Rws

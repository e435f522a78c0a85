/- Rows of results that may begin behind their block's first cell, and what is put behind them. -/
import Derived.Test.YtocbnfpnbgpfjaaBrkA
import Derived.Laws.AppendOwn
import Derived.Laws.CopyRow
set_option linter.unusedVariables false
set_option linter.unusedSimpArgs false
namespace Go.Proofs.Ytocbnfpnbgpfjaa.Brk
open Go.RowKit Go.Proofs.Ytocbnfpnbgpfjaa.Base Go.Proofs.YtocbnfpnbgpfjaaW.PrintWords Go.Proofs.YtocbnfpnbgpfjaaW.PrintMore

/-- A row of results in a block that base lets be, wherever it begins. -/
def LastB (w : World) (base : Nat → Prop) (v : Value) (l : List Bool) : Prop :=
  (v = .slice none 0 0 ∧ l = []) ∨ ∃ (g o c : Nat) (cells : Array Value), v = .slice (some ⟨g, o, none⟩) l.length c ∧ base g ∧ w.heap[g]? = some (.cells cells 4 (0, 0)) ∧ l.length ≤ c ∧ o + c ≤ cells.size ∧ ∀ (i : Nat) (b : Bool), l[i]? = some b → cells[o + i]? = some (.bool b)

theorem LastB.nil (w : World) (base : Nat → Prop) : LastB w base (.slice none 0 0) [] := .inl ⟨rfl, rfl⟩

theorem LastB.keep {w w' : World} {base : Nat → Prop} {v : Value} {l : List Bool} (h : LastB w base v l) (hk : ∀ g, v.ownBlock = some g → g < w.heap.size → w'.heap[g]? = w.heap[g]?) : LastB w' base v l := by
  rcases h with h | ⟨g, o, c, cells, hv, hg, hh, h1, h2, h3⟩
  · exact .inl h
  · exact .inr ⟨g, o, c, cells, hv, hg, (hk g (by rw [hv]; simp [Value.ownBlock]) (blk_lt hh)).trans hh, h1, h2, h3⟩

theorem info4 : (Try.prog.info? 4).map (fun i => (i.zero, i.size, i.bytes)) = some (some (.bool false), 1, 1) := by kernel_rfl

theorem room (W : World) (g o n c : Nat) (cells : Array Value) (b : Bool) (ty : TypeId) (a : Addr) (hg : W.heap[g]? = some (.cells cells 4 (0, 0))) (ha : W.cell? a = some (.bool b)) (hn : n + 1 ≤ c) (hc : o + c ≤ cells.size) :
    (Builtin.append_ #[36, 36] ty #[.slice (some ⟨g, o, none⟩) n c, .slice (some a) 1 1]).run Try.prog W = .ok (.slice (some ⟨g, o, none⟩) (n + 1) c) (W.setRow g (cells.toList.take (o + n) ++ [Value.bool b] ++ cells.toList.drop (o + n + 1)).toArray) := by
  obtain ⟨i, hi, hzz⟩ := Option.map_eq_some_iff.1 info4
  simp only [Prod.mk.injEq] at hzz
  obtain ⟨hz0, hz1, hz2⟩ := hzz
  have hf := run_firstCells_some (P := Try.prog) W i.size 1 a 1 1 [.bool b] (by rw [hz1]; rfl) (fun j u hu => by
    match j, hu with
    | 0, hu =>
      have h0 : a.add 0 = a := by simp [Addr.add]
      rw [h0, ha]
      simpa using hu
    | j + 1, hu => simp at hu)
  have hst := run_storeCells_at Try.prog g (o + n) 4 [.bool b] 0 cells W hg (by simp; omega) (by simp [Value.oneCell'])
  simp only [Nat.add_zero, List.length_singleton] at hst
  rw [hz1] at hf
  simp [Builtin.append_, run_underlying Try.underlying36, sizeOf, typeInfo, hi, hz1, Builtin.lenOf, hn, hf, Addr.add_lit, hst]

/-- What is put behind a row of results: the row with it, in its block or in a new one. -/
theorem app_any {w : World} {base : Nat → Prop} {v : Value} {l : List Bool} (hL : LastB w base v l) (hbase : ∀ k, w.heap.size ≤ k → base k) (hl : l.length ≤ 1000) (b : Bool) (ty : TypeId) :
    ∃ v1 w1, (Builtin.append_ #[36, 36] ty #[v, .slice (some ⟨w.heap.size, 0, none⟩) 1 1]).run Try.prog (w.alloc (.cells #[.bool b] 4)) = .ok v1 w1 ∧ LastB w1 base v1 (l ++ [b]) ∧ Only (fun k => v.ownBlock = some k) w w1 := by
  obtain ⟨i, hi, hzz⟩ := Option.map_eq_some_iff.1 info4
  simp only [Prod.mk.injEq] at hzz
  obtain ⟨hz0, hz1, hz2⟩ := hzz
  have hO : Only (fun k => v.ownBlock = some k) w (w.alloc (.cells #[.bool b] 4)) := (Only.refl _ w).alloc _
  have hx : (w.alloc (.cells #[.bool b] 4)).cell? ⟨w.heap.size, 0, none⟩ = some (.bool b) := cell_at (heap_alloc_new w _) 0 rfl
  have hsz : (w.alloc (.cells #[.bool b] 4)).heap.size = w.heap.size + 1 := by show (w.heap.push _).size = _; simp
  have hLw : LastB (w.alloc (.cells #[.bool b] 4)) base v l := hL.keep (fun g _ hg => heap_alloc_old w _ hg)
  have hnews : ∀ (j : Nat) (u : Value), [Value.bool b][j]? = some u → (w.alloc (.cells #[.bool b] 4)).cell? ((⟨w.heap.size, 0, none⟩ : Addr).add j) = some u := fun j u hu => by
    match j, hu with
    | 0, hu =>
      have h0 : (⟨w.heap.size, 0, none⟩ : Addr).add 0 = ⟨w.heap.size, 0, none⟩ := by simp [Addr.add]
      rw [h0, hx]
      simpa using hu
    | j + 1, hu => simp at hu
  generalize w.alloc (.cells #[.bool b] 4) = W at *
  rcases hLw with ⟨rfl, rfl⟩ | ⟨g, o, c, cells, rfl, hg, hh, h1, h2, h3⟩
  · have hr := run_append_nil (P := Try.prog) (w := W) 36 ty 4 i (.bool false) Try.underlying36 hi hz0 ⟨w.heap.size, 0, none⟩ 1 1 [.bool b] (by rw [hz1]; rfl) hnews (by omega) (by omega) (by rw [hz2]; omega)
    refine ⟨_, _, hr, .inr ⟨W.heap.size, 0, grownCap W 1 0 4, _, rfl, hbase _ (by omega), heap_alloc_new W.drew _, grownCap_ge W 1 0 4, ?_, ?_⟩, (hO.drew).alloc _⟩
    · have := grownCap_ge W 1 0 4
      simp [size_zeroCells, Value.cells]; omega
    · intro j u hu
      match j, hu with
      | 0, hu =>
        simp at hu
        subst hu
        rw [Nat.add_zero]
        rw [Array.getElem?_append_left (by simp)]
        rfl
      | j + 1, hu => simp at hu
  · by_cases hroom : l.length + 1 ≤ c
    · have hr := room W g o l.length c cells b ty ⟨w.heap.size, 0, none⟩ hh hx hroom h2
      have hgW := blk_lt hh
      refine ⟨_, _, hr, .inr ⟨g, o, c, (cells.toList.take (o + l.length) ++ [Value.bool b] ++ cells.toList.drop (o + l.length + 1)).toArray, by simp, hg, ?_, by simpa using hroom, ?_, ?_⟩, ?_⟩
      · exact setRow_heap W g cells _ 4 (0, 0) hh
      · simp; omega
      · intro j u hu
        have hlen : (cells.toList.take (o + l.length)).length = o + l.length := by
          have hq : cells.toList.length = cells.size := Array.length_toList
          rw [List.length_take]; omega
        rw [List.getElem?_toArray, List.append_assoc]
        by_cases hj : j < l.length
        · rw [List.getElem?_append_left hj] at hu
          rw [List.getElem?_append_left (by rw [hlen]; omega), List.getElem?_take, if_pos (by omega), Array.getElem?_toList]
          exact h3 j u hu
        · have hj2 : j = l.length := by
            have := (List.getElem?_eq_some_iff.1 hu).1
            simp at this
            omega
          subst hj2
          rw [List.getElem?_append_right (by omega)] at hu
          rw [List.getElem?_append_right (by rw [hlen]; omega), hlen]
          simp at hu ⊢
          exact hu
      · exact hO.then_ (S2 := fun k => k = g) ⟨rfl, rfl, rfl, by simp, fun k _ hn => setRow_other W g k _ hn⟩ (fun k hk => .inl (by rw [hk]; simp [Value.ownBlock]))
    · have hr := run_append_grow (P := Try.prog) (w := W) 36 ty 4 i (.bool false) Try.underlying36 hi hz0 ⟨g, o, none⟩ l.length c (l.map Value.bool) (by rw [hz1]; simp) (fun j u hu => by
        rw [List.getElem?_map] at hu
        obtain ⟨b2, hb2, rfl⟩ := Option.map_eq_some_iff.1 hu
        rw [Addr.add_lit]
        exact cell_at hh (o + j) (h3 j b2 hb2)) ⟨w.heap.size, 0, none⟩ 1 1 [.bool b] (by rw [hz1]; rfl) hnews (by omega) (by omega) (growslice_fits (by omega) (by rw [hz2]; omega))
      refine ⟨_, _, hr, .inr ⟨W.heap.size, 0, grownCap W (l.length + 1) c 4, _, by simp, hbase _ (by omega), heap_alloc_new W.drew _, by simpa using grownCap_ge W (l.length + 1) c 4, ?_, ?_⟩, (hO.drew).alloc _⟩
      · have := grownCap_ge W (l.length + 1) c 4
        simp [size_zeroCells, Value.cells]; omega
      · intro j u hu
        rw [Nat.zero_add, Array.append_assoc]
        by_cases hj : j < l.length
        · rw [List.getElem?_append_left hj] at hu
          rw [Array.getElem?_append_left (by simpa using hj)]
          simp [hu]
        · have hj2 : j = l.length := by
            have := (List.getElem?_eq_some_iff.1 hu).1
            simp at this
            omega
          subst hj2
          rw [List.getElem?_append_right (by omega)] at hu
          rw [Array.getElem?_append_right (by simp)]
          simp at hu ⊢
          subst hu
          rw [Array.getElem?_append_left (by simp)]
          rfl

end Go.Proofs.Ytocbnfpnbgpfjaa.Brk

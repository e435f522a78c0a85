/- Wheel: its state; none, Now, Len, list. -/
import Derived.Test.YtkjokpmlnnjmoaaWhF
set_option linter.unusedVariables false
set_option linter.unusedSimpArgs false
namespace Go.Proofs.Ytkjokpmlnnjmoaa.Wh
open Go.RowKit Go.Maps Go.Proofs.Ytkjokpmlnnjmoaa.Base Go.Proofs.Ytkjokpmlnnjmoaa.Rws Go.Proofs.YtkjokpmlnnjmoaaW.PrintWords Go.Proofs.YtkjokpmlnnjmoaaW.PrintMore
attribute [local go_sem] max2_mx min2_mn max_two min_two max_three min_three max_four min_four

/-- The wheel's own block. -/
def WB (w : World) (g b : Nat) (n last : Int) (vals : Nat → Value) : Prop :=
  ∃ cs, w.heap[g]? = some (.cells cs 57 (0, 0)) ∧ cs.size = 260 ∧ cs[0]? = some (.int .i64 n) ∧ cs[1]? = some (.int .i64 last) ∧ (∀ i, i < 257 → cs[2 + i]? = some (vals i)) ∧ cs[259]? = some (.map (some b))

section
variable {w w' : World} {g b : Nat} {n last : Int} {vals : Nat → Value} {S : Nat → Prop}
theorem WB.now (h : WB w g b n last vals) : w.cell? ⟨g, 0, none⟩ = some (.int .i64 n) := by obtain ⟨cs, h1, _, h2, _⟩ := h; exact cell_at h1 0 h2
theorem WB.lst (h : WB w g b n last vals) : w.cell? ⟨g, 1, none⟩ = some (.int .i64 last) := by obtain ⟨cs, h1, _, _, h2, _⟩ := h; exact cell_at h1 1 h2
theorem WB.val (h : WB w g b n last vals) (i : Nat) (hi : i < 257) : w.cell? ⟨g, 2 + i, none⟩ = some (vals i) := by obtain ⟨cs, h1, _, _, _, h2, _⟩ := h; exact cell_at h1 (2 + i) (h2 i hi)
theorem WB.mapc (h : WB w g b n last vals) : w.cell? ⟨g, 259, none⟩ = some (.map (some b)) := by obtain ⟨cs, h1, _, _, _, _, h2⟩ := h; exact cell_at h1 259 h2
theorem WB.frozen (h : WB w g b n last vals) (k : Nat) : w.frozen? ⟨g, k, none⟩ = false := by obtain ⟨cs, h1, _⟩ := h; exact blk_frozen h1 k
theorem WB.lt (h : WB w g b n last vals) : g < w.heap.size := by obtain ⟨cs, h1, _⟩ := h; exact blk_lt h1
theorem WB.only (h : WB w g b n last vals) (k : Only S w w') (hn : ¬ S g) : WB w' g b n last vals := by obtain ⟨cs, h1, h2⟩ := h; exact ⟨cs, k.blk h1 hn, h2⟩
theorem WB.isBlk (h : WB w g b n last vals) : ∃ cs, w.heap[g]? = some (.cells cs 57 (0, 0)) := by obtain ⟨cs, h1, _⟩ := h; exact ⟨cs, h1⟩

theorem WB.set (h : WB w g b n last vals) (i : Nat) (hi : i < 257) (v : Value) : WB (w.setCell ⟨g, 2 + i, none⟩ v) g b n last (upd vals i v) := by
  obtain ⟨cs, h1, h2, h3, h4, h5, h6⟩ := h
  refine ⟨_, blk_set h1 (2 + i) v, by simp [h2], ?_, ?_, ?_, ?_⟩
  · rw [Array.getElem?_setIfInBounds, if_neg (by omega)]; exact h3
  · rw [Array.getElem?_setIfInBounds]; rw [if_neg (by omega)]; exact h4
  · intro j hj
    rw [Array.getElem?_setIfInBounds]
    by_cases e : j = i
    · subst e
      rw [if_pos rfl, if_pos (by omega), upd_same]
    · rw [if_neg (by omega), upd_other _ _ e]
      exact h5 j hj
  · rw [Array.getElem?_setIfInBounds]; rw [if_neg (by omega)]; exact h6

theorem WB.setNow (h : WB w g b n last vals) (n' : Int) : WB (w.setCell ⟨g, 0, none⟩ (.int .i64 n')) g b n' last vals := by
  obtain ⟨cs, h1, h2, h3, h4, h5, h6⟩ := h
  refine ⟨_, blk_set h1 0 _, by simp [h2], ?_, ?_, ?_, ?_⟩
  · rw [Array.getElem?_setIfInBounds, if_pos rfl, if_pos (by omega)]
  · rw [Array.getElem?_setIfInBounds]; rw [if_neg (by omega)]; exact h4
  · intro j hj
    rw [Array.getElem?_setIfInBounds, if_neg (by omega)]
    exact h5 j hj
  · rw [Array.getElem?_setIfInBounds]; rw [if_neg (by omega)]; exact h6

theorem WB.setLast (h : WB w g b n last vals) (n' : Int) : WB (w.setCell ⟨g, 1, none⟩ (.int .i64 n')) g b n n' vals := by
  obtain ⟨cs, h1, h2, h3, h4, h5, h6⟩ := h
  refine ⟨_, blk_set h1 1 _, by simp [h2], ?_, ?_, ?_, ?_⟩
  · rw [Array.getElem?_setIfInBounds]; rw [if_neg (by omega)]; exact h3
  · rw [Array.getElem?_setIfInBounds, if_pos rfl, if_pos (by omega)]
  · intro j hj
    rw [Array.getElem?_setIfInBounds, if_neg (by omega)]
    exact h5 j hj
  · rw [Array.getElem?_setIfInBounds]; rw [if_neg (by omega)]; exact h6
end

/-- A wheel in the memory: its block, its map, its lists; F: the blocks that are its own. -/
structure WS (w : World) (g b : Nat) (F : Nat → Prop) (n last : Int) (L : List Tm) (vals : Nat → Value) (rows : Nat → List Int) : Prop where
  blk : WB w g b n last vals
  map : TM w b L
  row : ∀ i, i < 257 → Ks w F (vals i) (rows i)
  ap : ∀ i, i < 257 → ∀ j, j < 257 → i ≠ j → ∀ k, (vals i).ownBlock = some k → (vals j).ownBlock ≠ some k
  fg : F g
  fb : F b
  flt : ∀ k, F k → k < w.heap.size

theorem WS.only {w w' : World} {g b : Nat} {F S : Nat → Prop} {n last : Int} {L : List Tm} {vals : Nat → Value} {rows : Nat → List Int} (h : WS w g b F n last L vals rows) (k : Only S w w') (hn : ∀ i, F i → ¬ S i) : WS w' g b F n last L vals rows :=
  ⟨h.blk.only k (hn g h.fg), h.map.only k (hn b h.fb), fun i hi => Row.only (h.row i hi) k (fun q hq => hn q (Row.own (h.row i hi) hq).1), h.ap, h.fg, h.fb, fun i hi => Nat.lt_of_lt_of_le (h.flt i hi) k.size⟩

theorem eql_map (w : World) (b : Nat) : (binOp .eql 53 (.map (some b)) (.map none)).run Try.prog w = .ok (.bool false) w := by
  have h1 : ∀ d, (Op.equalIn (d + 1) 53 (.map (some b)) (.map none)).run Try.prog w = .ok false w := fun d => by simp [Op.equalIn, run_underlying Try.underlying53]
  have h2 : (Op.equal 53 (.map (some b)) (.map none)).run Try.prog w = .ok false w := h1 9999
  simp [binOp, h2]

theorem none_nil (w : World) : Calls Try.prog 22 #[.pointer none] w fun e w' => e = .returned (.bool true) ∧ w = w' := by
  go_enter Try.func22, Try.ntmps22
  go_wp2
  go_ret
  exact ⟨rfl, rfl⟩

theorem none_p {w : World} {g b : Nat} {n last : Int} {vals : Nat → Value} (h : WB w g b n last vals) : Calls Try.prog 22 #[.pointer (some ⟨g, 0, none⟩)] w fun e w' => e = .returned (.bool false) ∧ w = w' := by
  have hc := h.mapc
  have he := eql_map w b
  clear h
  go_enter Try.func22, Try.ntmps22
  go_wp2
  go_ret
  exact ⟨rfl, rfl⟩

/-- The place of a list in the wheel's block. -/
theorem list_p (g : Nat) (t : Tm) (w : World) (hr : (t.lv = 4 ∧ t.sl = 0) ∨ (0 ≤ t.lv ∧ t.lv ≤ 3 ∧ 0 ≤ t.sl ∧ t.sl < 64)) : Calls Try.prog 30 #[.pointer (some ⟨g, 0, none⟩), t.v] w fun e w' => e = .returned (.pointer (some ⟨g, 2 + t.ix, none⟩)) ∧ Only (fun _ => False) w w' := by
  unfold Tm.v Tm.ix ixOf
  obtain ⟨a, h, l, s⟩ := t
  simp only at hr ⊢
  by_cases h4 : l = 4
  · subst h4
    rw [if_pos rfl]
    have y2 := box_cell w #[.int .i64 a, .int .i64 h, .int .i64 4, .int .i64 s] 60 2 rfl
    clear hr
    go_enter Try.func30, Try.ntmps30
    go_wp2
    go_ret
    exact ⟨rfl, (Only.refl _ w).alloc _⟩
  · rw [if_neg h4]
    have hd : decide (4 ≤ l) = false := decide_eq_false (by omega)
    have h0 : 0 ≤ l := by omega
    have h1 : l < 4 := by omega
    have h2 : 0 ≤ s := by omega
    have h3 : s < 64 := by omega
    have y2 := box_cell w #[.int .i64 a, .int .i64 h, .int .i64 l, .int .i64 s] 60 2 rfl
    have y3 := box_cell w #[.int .i64 a, .int .i64 h, .int .i64 l, .int .i64 s] 60 3 rfl
    go_enter Try.func30, Try.ntmps30
    go_wp2
    go_quiet (fail)
    go_wp2
    go_ret
    refine ⟨?_, ((Only.refl _ w).alloc _).drewN _⟩
    rw [show 2 + (64 * l + s).toNat = 2 + l.toNat * 64 + s.toNat by omega]
    rfl

end Go.Proofs.Ytkjokpmlnnjmoaa.Wh

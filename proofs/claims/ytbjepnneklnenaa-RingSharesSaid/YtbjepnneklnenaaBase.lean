/- Words of this proof's own, over any program: what a call keeps when it writes some blocks alone. No condition. -/
import Derived.Below
import Derived.Deep.Draws
import Derived.WalkKit
import Derived.KernelRfl
import Derived.RowKit3
import Derived.Deep.LoopGhost
import Derived.Deep.QuietTactic
import Derived.BigQuiet
import Derived.StillTailTactics
import Derived.Outline
import Derived.Lib.Hide
import Derived.Deep.DeepCutAuto
import Derived.Deep.RegionHeld3
import Derived.Deep.RegionWith
import Derived.Laws.Rows
import Derived.RowKit
import Derived.Test.YtbjepnneklnenaaWWords
import Derived.Test.YtbjepnneklnenaaWMore
set_option linter.unusedVariables false
set_option linter.unusedSimpArgs false
namespace Go.Proofs.Ytbjepnneklnenaa.Base
open Go.RowKit Go.Proofs.YtbjepnneklnenaaW.PrintWords Go.Proofs.YtbjepnneklnenaaW.PrintMore

/-- Only the blocks of S may have turned, and what is new. -/
structure Only (S : Nat → Prop) (w w' : World) : Prop where
  os : w'.os = w.os
  tape : w'.tape = w.tape
  output : w'.output = w.output
  size : w.heap.size ≤ w'.heap.size
  block : ∀ i, i < w.heap.size → ¬ S i → w'.heap[i]? = w.heap[i]?

section
variable {S S2 : Nat → Prop} {w w1 w2 u : World} {B : Nat}
theorem Only.refl (S : Nat → Prop) (w : World) : Only S w w := ⟨rfl, rfl, rfl, Nat.le_refl _, fun _ _ _ => rfl⟩
theorem Only.trans (h : Only S w w1) (k : Only S w1 w2) : Only S w w2 :=
  ⟨k.os.trans h.os, k.tape.trans h.tape, k.output.trans h.output, Nat.le_trans h.size k.size, fun i hi hn => (k.block i (Nat.lt_of_lt_of_le hi h.size) hn).trans (h.block i hi hn)⟩
/-- What is written later is of S, or new. -/
theorem Only.then_ (h : Only S w w1) (k : Only S2 w1 w2) (hs : ∀ i, S2 i → S i ∨ w.heap.size ≤ i) : Only S w w2 :=
  ⟨k.os.trans h.os, k.tape.trans h.tape, k.output.trans h.output, Nat.le_trans h.size k.size, fun i hi hn => (k.block i (Nat.lt_of_lt_of_le hi h.size) (fun h2 => (hs i h2).elim hn (fun h3 => by omega))).trans (h.block i hi hn)⟩
theorem Only.mono (h : Only S w w1) (hs : ∀ i, S i → S2 i) : Only S2 w w1 := ⟨h.os, h.tape, h.output, h.size, fun i hi hn => h.block i hi (fun k => hn (hs i k))⟩
theorem Only.of_below (h : Below w.heap.size w w1) : Only S w w1 := ⟨h.os, h.tape, h.output, h.size, fun i hi _ => h.block i hi⟩
theorem Only.alloc (h : Only S w w1) (o : Obj) : Only S w (w1.alloc o) := h.then_ (S2 := S) (Only.of_below (below_alloc (Below.refl _ _) o)) (fun _ k => .inl k)
theorem Only.drew (h : Only S w w1) : Only S w w1.drew := ⟨h.os, h.tape, h.output, h.size, h.block⟩
theorem Only.drewN (h : Only S w w1) (n : Nat) : Only S w (w1.drewN n) := ⟨h.os, h.tape, h.output, h.size, h.block⟩
theorem Only.setCell (h : Only S w w1) {p : Addr} (hp : S p.block ∨ w.heap.size ≤ p.block) (v : Value) : Only S w (w1.setCell p v) :=
  h.then_ (S2 := fun k => k = p.block) ⟨rfl, rfl, rfl, by simp [World.setCell], fun i _ hn => Below.heap_setCell w1 p v i hn⟩ (fun k hk => by rw [hk]; exact hp)
theorem Only.below (k : Only S w w1) (h : Below B u w) (hB : B ≤ w.heap.size) (hs : ∀ i, S i → B ≤ i) : Below B u w1 :=
  ⟨k.os.trans h.os, k.tape.trans h.tape, k.output.trans h.output, Nat.le_trans h.size k.size, fun i hi => (k.block i (by omega) (fun h2 => by have := hs i h2; omega)).trans (h.block i hi)⟩
theorem Only.grown {row : Option Nat} (h : Only S w w1) (hg : w1.grownBy w2 row) (hr : ∀ k, row = some k → S k ∨ w.heap.size ≤ k) : Only S w w2 :=
  h.then_ (S2 := fun k => row = some k) ⟨hg.os, hg.tape, hg.output, hg.size, fun i hi hn => hg.block i hi (fun e => hn e.symm)⟩ hr
/-- A block that is not written stays. -/
theorem Only.blk (k : Only S w w1) {g : Nat} {o : Obj} (h : w.heap[g]? = some o) (hn : ¬ S g) : w1.heap[g]? = some o := (k.block g (blk_lt h) hn).trans h
theorem Only.cell (k : Only S w w1) {a : Addr} {v : Value} (h : w.cell? a = some v) (hn : ¬ S a.block) : w1.cell? a = some v := by
  have := k.block a.block (World.block_lt_of_cell? w a h) hn
  simpa [World.cell?, this] using h
end

theorem wrap_i64 (n : Int) : IntKind.i64.wrap n = wrap64 n := by unfold wrap64; rw [IntKind.wrap_i64]

theorem ret_int {k : IntKind} {a b : Int} (h : a = b) : Ending.returned (.int k a) = .returned (.int k b) := by rw [h]

/-- The facts on a block's cells that a walk asks for: the cell, and that it may be written. -/
theorem cell_at {w : World} {g : Nat} {cs : Array Value} {t : TypeId} {v : Value} (h : w.heap[g]? = some (.cells cs t (0, 0))) (i : Nat) (hv : cs[i]? = some v) : w.cell? ⟨g, i, none⟩ = some v := (blk_cell h i).trans hv

/-- A row of the call's own beside a block of another type that may have turned. -/
theorem R_only {α : Type} {d : Kd α} {e base : Nat} {ok : Nat → Prop} {w w1 : World} {v : Value} {xs : List α} {g t : Nat} {cells : Array Value} (h : d.R e w base ok v xs) (k : Only (fun i => i = g) w w1)
    (hb : w.heap[g]? = some (.cells cells t (0, 0))) (ht : ∀ q, q ∈ e :: d.E → q ≠ t) : d.R e w1 base ok v xs :=
  Kd.R_mono (Kd.R_step (Kd.R_types h hb ht) (fun i hi hlt => k.block i hlt hi.2)) (fun _ hk => hk.1)

/-- A row of the call's own that is not empty lies in a block. -/
theorem R_some {α : Type} {d : Kd α} {e base : Nat} {ok : Nat → Prop} {w : World} {A : Option Addr} {n c : Nat} {xs : List α} (h : d.R e w base ok (.slice A n c) xs) (hn : 0 < xs.length) : ∃ g, A = some ⟨g, 0, none⟩ ∧ base ≤ g ∧ ok g ∧ g < w.heap.size := by
  obtain ⟨inner, ho⟩ := Kd.R_own h
  rcases ho.2 with ⟨_, hx⟩ | ⟨g, cap, cur, hv, hg, hh, _⟩
  · omega
  · injection hv with h1 h2 h3
    subst h1
    exact ⟨g, rfl, hg, h.1 g (by simp [Value.ownBlock]), (Array.getElem?_eq_some_iff.1 hh).1⟩

/-- 'max' and 'min' of two whole numbers, under one name. -/
theorem max2_mx (k k' : IntKind) (x y : Int) : Builtin.max2 (.int k x) (.int k' y) = pure (.int k (mx x y)) := by unfold mx; simp only [Builtin.max2, gt_iff_lt]
theorem min2_mn (k k' : IntKind) (x y : Int) : Builtin.min2 (.int k x) (.int k' y) = pure (.int k (mn x y)) := by unfold mn; simp only [Builtin.min2]
theorem mx_cases (a b : Int) : mx a b = a ∧ b ≤ a ∨ mx a b = b ∧ a < b := by unfold mx; split <;> omega
theorem mn_cases (a b : Int) : mn a b = a ∧ a ≤ b ∨ mn a b = b ∧ b < a := by unfold mn; split <;> omega

/-- A cell of a new block. -/
theorem box_cell (w : World) (cs : Array Value) (t : TypeId) (j : Nat) {v : Value} (h : cs[j]? = some v) : (w.alloc (.cells cs t)).cell? ⟨w.heap.size, j, none⟩ = some v :=
  cell_at (heap_alloc_new w (.cells cs t)) j h

/-- A time, from 0 to the greatest tick. -/
def cl (a : Int) : Int := if a < 0 then 0 else if a > 1125899906842624 then 1125899906842624 else a

theorem cl_bounds (a : Int) : 0 ≤ cl a ∧ cl a ≤ 1125899906842624 := by
  unfold cl; repeat' split
  all_goals omega

theorem cl_same (a : Int) (h0 : 0 ≤ a) (h1 : a ≤ 1125899906842624) : cl a = a := by
  unfold cl; repeat' split
  all_goals omega

theorem cl_big (a : Int) (h : 1125899906842624 ≤ a) : cl a = 1125899906842624 := by
  unfold cl; repeat' split
  all_goals omega

theorem cl_mn (a : Int) : mn (mx a 0) 1125899906842624 = cl a := by
  unfold cl mn mx
  repeat' split
  all_goals omega

end Go.Proofs.Ytbjepnneklnenaa.Base

/- Alarm: two of them. -/
import Derived.Test.YtmkcckkjkfmheaaAlF
import Derived.Test.YtmkcckkjkfmheaaAlG
set_option linter.unusedVariables false
set_option linter.unusedSimpArgs false
set_option maxRecDepth 100000
namespace Go.Proofs.Ytmkcckkjkfmheaa.Al
open Go.RowKit Go.Maps Go.Proofs.Ytmkcckkjkfmheaa.Base Go.Proofs.Ytmkcckkjkfmheaa.Rws Go.Proofs.Ytmkcckkjkfmheaa.Wh Go.Proofs.YtmkcckkjkfmheaaW.PrintWords Go.Proofs.YtmkcckkjkfmheaaW.PrintMore

/-- Two alarms beside each other, made since W, beside blocks that are kept. -/
structure Duo (W : World) (Keep : Nat → Obj → Prop) (G : Int) (w : World) (pa : Nat) (Fa : Nat → Prop) (na la : Int) (A : List En) (pb : Nat) (Fb : Nat → Prop) (nb lb : Int) (B : List En) : Prop where
  a : AH w pa Fa G na la A
  b : AH w pb Fb G nb lb B
  ap : ∀ k, Fa k → ¬ Fb k
  fa : ∀ k, Fa k → W.heap.size ≤ k
  fb : ∀ k, Fb k → W.heap.size ≤ k
  on : Only (fun _ => False) W w
  kp : ∀ g o, Keep g o → w.heap[g]? = some o ∧ ¬ Fa g ∧ ¬ Fb g

section
variable {W w w' : World} {Keep : Nat → Obj → Prop} {G : Int} {pa pb : Nat} {Fa Fb F' : Nat → Prop} {na la nb lb n' l' : Int} {A B C : List En}
theorem Duo.pass (h : Duo W Keep G w pa Fa na la A pb Fb nb lb B) (ho : Only (fun _ => False) w w') : Duo W Keep G w' pa Fa na la A pb Fb nb lb B :=
  ⟨h.a.only ho (fun _ _ h => h), h.b.only ho (fun _ _ h => h), h.ap, h.fa, h.fb, h.on.trans ho, fun g o hk => ⟨ho.blk (h.kp g o hk).1 (fun h => h), (h.kp g o hk).2⟩⟩

theorem Duo.left (h : Duo W Keep G w pa Fa na la A pb Fb nb lb B) (ha : AH w' pa F' G n' l' C) (hf : ∀ k, F' k → Fa k ∨ w.heap.size ≤ k) (ho : Only Fa w w') : Duo W Keep G w' pa F' n' l' C pb Fb nb lb B :=
  ⟨ha, h.b.only ho (fun k hk hk2 => h.ap k hk2 hk), fun k hk hk2 => (hf k hk).elim (fun h2 => h.ap k h2 hk2) (fun h2 => by have := h.b.flt k hk2; omega),
    fun k hk => (hf k hk).elim (h.fa k) (fun h2 => Nat.le_trans h.on.size h2), h.fb, h.on.then_ ho (fun k hk => .inr (h.fa k hk)),
    fun g o hk => ⟨ho.blk (h.kp g o hk).1 (h.kp g o hk).2.1, fun h2 => (hf g h2).elim (h.kp g o hk).2.1 (fun h3 => by have := blk_lt (h.kp g o hk).1; omega), (h.kp g o hk).2.2⟩⟩

theorem Duo.right (h : Duo W Keep G w pa Fa na la A pb Fb nb lb B) (hb : AH w' pb F' G n' l' C) (hf : ∀ k, F' k → Fb k ∨ w.heap.size ≤ k) (ho : Only Fb w w') : Duo W Keep G w' pa Fa na la A pb F' n' l' C :=
  ⟨h.a.only ho (fun k hk hk2 => h.ap k hk hk2), hb, fun k hk hk2 => (hf k hk2).elim (fun h2 => h.ap k hk h2) (fun h2 => by have := h.a.flt k hk; omega),
    h.fa, fun k hk => (hf k hk).elim (h.fb k) (fun h2 => Nat.le_trans h.on.size h2), h.on.then_ ho (fun k hk => .inr (h.fb k hk)),
    fun g o hk => ⟨ho.blk (h.kp g o hk).1 (h.kp g o hk).2.2, (h.kp g o hk).2.1, fun h2 => (hf g h2).elim (h.kp g o hk).2.2 (fun h3 => by have := blk_lt (h.kp g o hk).1; omega)⟩⟩

/-- What is beside both stays beside both. -/
theorem Duo.apart_left {P : Nat → Prop} {v : Value} {L : List K5} (h : Duo W Keep G w pa Fa na la A pb Fb nb lb B) (hr : Ns w P v L) (ho : Only Fa w w') (hn : ∀ q, v.ownBlock = some q → ¬ Fa q) : Ns w' P v L := hr.only ho (fun g hg h2 => hn g hg h2)

theorem boxR_cells {w : World} {N : Nat} {k : K5} (h : w.heap[N]? = some (boxR k)) : w.cell? ⟨N, 0, none⟩ = some (.int .i64 k.a) ∧ w.cell? ⟨N, 1, none⟩ = some (.int .i64 k.b) ∧ w.cell? ⟨N, 2, none⟩ = some (.int .i64 k.c) ∧ w.cell? ⟨N, 3, none⟩ = some (.int .i64 k.d) ∧ w.cell? ⟨N, 4, none⟩ = some (.int .i64 k.e) :=
  ⟨cell_at h 0 rfl, cell_at h 1 rfl, cell_at h 2 rfl, cell_at h 3 rfl, cell_at h 4 rfl⟩

theorem Duo.cells {N : Nat} {k : K5} (h : Duo W Keep G w pa Fa na la A pb Fb nb lb B) (hk : Keep N (boxR k)) : w.cell? ⟨N, 0, none⟩ = some (.int .i64 k.a) ∧ w.cell? ⟨N, 1, none⟩ = some (.int .i64 k.b) ∧ w.cell? ⟨N, 2, none⟩ = some (.int .i64 k.c) ∧ w.cell? ⟨N, 3, none⟩ = some (.int .i64 k.d) ∧ w.cell? ⟨N, 4, none⟩ = some (.int .i64 k.e) := boxR_cells (h.kp N _ hk).1
end
end Go.Proofs.Ytmkcckkjkfmheaa.Al

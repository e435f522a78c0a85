/- The contracts of bag's Twice, and of a bag that is none. -/
import Derived.Test.YthgkcjcmliaanaaBg
set_option linter.unusedVariables false
set_option linter.unusedSimpArgs false
namespace Go.Proofs.Ythgkcjcmliaanaa.Bg
open Go.RowKit Go.Proofs.Ythgkcjcmliaanaa.Base Go.Proofs.Ythgkcjcmliaanaa.Rws Go.Proofs.YthgkcjcmliaanaaW.PrintWords Go.Proofs.YthgkcjcmliaanaaW.PrintMore
attribute [local go_sem] max2_mx min2_mn max_two min_two max_three min_three max_four min_four

theorem only_new {S : Nat → Prop} {w w' : World} (h : Only (fun k => w.heap.size ≤ k) w w') : Only S w w' :=
  ⟨h.os, h.tape, h.output, h.size, fun i hi _ => h.block i hi (by omega)⟩

theorem look_nil' (k : Int) (w : World) : Calls Try.prog 13 #[.pointer none, .int .i64 k] w fun e w' => e = .returned (.tuple #[.agg #[.int .i64 0, .int .i64 0, .string ⟨#[]⟩, .bool false], .int .i64 1]) ∧ Only (fun _ => False) w w' := look_nil k w

theorem twice_nil (k : Int) (w : World) : Calls Try.prog 9 #[.pointer none, .int .i64 k] w fun e w' => e = .returned (.int .i64 1) ∧ Only (fun _ => False) w w' := by
  go_enter Try.func9, Try.ntmps9
  go_wp2_with (go_at_call 13; refine (look_nil' _ _).mono ?_; rintro e w1 ⟨rfl, ho⟩; have HO := Lib.hid ho; clear ho)
  go_ret
  exact ⟨rfl, HO.out.alloc _⟩

theorem hurt_nil (k a b : Int) (w : World) : Calls Try.prog 11 #[.pointer none, .int .i64 k, .int .i64 a, .int .i64 b] w fun e w' => e = .returned (.int .i64 1) ∧ Only (fun _ => False) w w' := by
  go_enter Try.func11, Try.ntmps11
  go_wp2_with (go_at_call 13; refine (look_nil' _ _).mono ?_; rintro e w1 ⟨rfl, ho⟩; have HO := Lib.hid ho; clear ho)
  go_ret
  exact ⟨rfl, HO.out.alloc _⟩

/-- A look, its result taken apart. -/
theorem look_is {g : Nat} {v : Value} {lost : Int} {P : Nat → Prop} {L : List Fl} (w : World) (hb : BG w g v lost) (hL : Fls w P v L) (k : Int) {x : Fl} {e0 : Int} (h : lookF L k = (x, e0)) :
    Calls Try.prog 13 #[.pointer (some ⟨g, 0, none⟩), .int .i64 k] w fun e w' => e = .returned (.tuple #[.agg #[.int .i64 x.f, .int .i64 x.t, .string x.s, .bool x.h], .int .i64 e0]) ∧ Only (fun _ => False) w w' := by
  have := look_p w hb hL k
  rw [h] at this
  exact this

theorem twice_no {g : Nat} {v : Value} {lost : Int} {P : Nat → Prop} {L : List Fl} (w : World) (hb : BG w g v lost) (hL : Fls w P v L) (k : Int) {x : Fl} (h : lookF L k = (x, 7)) :
    Calls Try.prog 9 #[.pointer (some ⟨g, 0, none⟩), .int .i64 k] w fun e w' => e = .returned (.int .i64 7) ∧ Only (fun _ => False) w w' := by
  have HLK := Lib.hid (look_is w hb hL k h)
  clear hb hL h
  go_enter Try.func9, Try.ntmps9
  go_wp2_with (go_at_call 13; refine HLK.out.mono ?_; rintro e w1 ⟨rfl, ho⟩; have HO := Lib.hid ho; clear ho)
  go_ret
  exact ⟨rfl, HO.out.alloc _⟩

theorem twice_full {g : Nat} {v : Value} {lost : Int} {P : Nat → Prop} {L : List Fl} (w : World) (hb : BG w g v lost) (hL : Fls w P v L) (hl : 256 ≤ L.length) (hlo : 0 ≤ lost ∧ lost ≤ 100000) (k : Int) {x : Fl} (h : lookF L k = (x, 0)) :
    Calls Try.prog 9 #[.pointer (some ⟨g, 0, none⟩), .int .i64 k] w fun e w' => e = .returned (.int .i64 6) ∧ BG w' g v (lost + 1) ∧ Only (fun k => k = g) w w' := by
  have HLK := Lib.hid (look_is w hb hL k h)
  have HS : Hid (∀ w1, Only (fun _ => False) w w1 → Calls Try.prog 8 #[.pointer (some ⟨g, 0, none⟩), .agg #[.int .i64 x.f, .int .i64 x.t, .string x.s, .bool x.h]] w1 fun e w' => e = .returned (.int .i64 6) ∧ BG w' g v (lost + 1) ∧ Only (fun k => k = g) w1 w') := Lib.hid (fun w1 ho => send_full w1 (ho.blk hb (fun h => h)) (Row.only hL ho (fun _ _ h => h)) hl hlo x)
  clear hb hL h hl hlo
  go_enter Try.func9, Try.ntmps9
  go_wp2_with (first | (go_at_call 13; refine HLK.out.mono ?_; rintro e w1 ⟨rfl, ho⟩; have HO := Lib.hid ho; clear ho) | (go_at_call 8; refine (HS.out _ (HO.out.alloc _)).mono ?_; rintro e w2 ⟨rfl, h2, o2⟩; have H2 := Lib.hid h2; have HO2 := Lib.hid (((HO.out.alloc (.cells #[.int .i64 x.f, .int .i64 x.t, .string x.s, .bool x.h] 29)).mono (S2 := fun k => k = g) (fun _ h => h.elim)).trans o2); clear h2 o2))
  go_ret
  exact ⟨rfl, H2.out, HO2.out⟩

theorem twice_ok {g : Nat} {v : Value} {lost : Int} {P : Nat → Prop} {L : List Fl} (w : World) (hb : BG w g v lost) (hL : Fls w P v L) (hl : L.length < 256) (hP : ∀ k, w.heap.size ≤ k → P k) (k : Int) {x : Fl} (h : lookF L k = (x, 0)) :
    Calls Try.prog 9 #[.pointer (some ⟨g, 0, none⟩), .int .i64 k] w fun e w' => e = .returned (.int .i64 0) ∧ ∃ v', BG w' g v' lost ∧ Fls w' P v' (L ++ [x]) ∧ Only (fun k => k = g ∨ v.ownBlock = some k) w w' := by
  have HLK := Lib.hid (look_is w hb hL k h)
  have HS : Hid (∀ w1, Only (fun _ => False) w w1 → Calls Try.prog 8 #[.pointer (some ⟨g, 0, none⟩), .agg #[.int .i64 x.f, .int .i64 x.t, .string x.s, .bool x.h]] w1 fun e w' => e = .returned (.int .i64 0) ∧ ∃ v', BG w' g v' lost ∧ Fls w' P v' (L ++ [x]) ∧ Only (fun k => k = g ∨ v.ownBlock = some k) w1 w') := Lib.hid (fun w1 ho => send_ok w1 (ho.blk hb (fun h => h)) (Row.only hL ho (fun _ _ h => h)) hl (fun q hq => hP q (by have := ho.size; omega)) x)
  clear hb hL h hl hP
  go_enter Try.func9, Try.ntmps9
  go_wp2_with (first | (go_at_call 13; refine HLK.out.mono ?_; rintro e w1 ⟨rfl, ho⟩; have HO := Lib.hid ho; clear ho) | (go_at_call 8; refine (HS.out _ (HO.out.alloc _)).mono ?_; rintro e w2 ⟨rfl, v2, h2, i2, o2⟩; have H2 := Lib.hid h2; have I2 := Lib.hid i2; have HO2 := Lib.hid (((HO.out.alloc (.cells #[.int .i64 x.f, .int .i64 x.t, .string x.s, .bool x.h] 29)).mono (S2 := fun k => k = g ∨ v.ownBlock = some k) (fun _ h => h.elim)).trans o2); clear h2 i2 o2))
  go_ret
  exact ⟨rfl, v2, H2.out, I2.out, HO2.out⟩

section
variable {P : Program} {W : World} {ops : Array Oper} {rest : List Oper} {o : Oper} {a : Act} {Q : Exit → Act → World → Prop}
theorem gate_store {ty : TypeId} {x y : Operand} (_ho : o.op = .store ty x y) (h : wpList P ops Q (o :: rest) a W) : wpList P ops Q (o :: rest) a W := h
end

theorem only_setRow {S : Nat → Prop} {w w1 : World} (h : Only S w w1) {g : Nat} (hg : S g ∨ w.heap.size ≤ g) (cs : Array Value) : Only S w (w1.setRow g cs) :=
  h.then_ (S2 := fun k => k = g) ⟨rfl, rfl, rfl, by simp, fun k _ hn => setRow_other w1 g k _ hn⟩ (fun k hk => by rw [hk]; exact hg)

set_option maxHeartbeats 1000000 in
/-- Nothing is taken: the pointer is nil, or there is no such place. -/
theorem take_no (p : Value) (k e0 : Int) (he : e0 = 1 ∨ e0 = 7) (w : World) (x : Fl)
    (hlk : ∀ w1, Only (fun _ => False) w w1 → Calls Try.prog 13 #[p, .int .i64 k] w1 fun e w' => e = .returned (.tuple #[.agg #[.int .i64 x.f, .int .i64 x.t, .string x.s, .bool x.h], .int .i64 e0]) ∧ Only (fun _ => False) w1 w') :
    Calls Try.prog 10 #[p, .int .i64 k] w fun e w' => e = .returned (.tuple #[x.v, .int .i64 e0]) ∧ Only (fun _ => False) w w' := by
  have HLK := Lib.hid hlk
  have HO1 : Hid (Only (fun _ => False) w (w.alloc (.cells #[.int .i64 0, .int .i64 0, .string ⟨#[]⟩, .bool false] 29))) := Lib.hid ((Only.refl _ w).alloc _)
  have HK1 := Lib.hid (heap_alloc_new w (.cells #[.int .i64 0, .int .i64 0, .string ⟨#[]⟩, .bool false] 29))
  clear hlk
  obtain ⟨ne, hne⟩ : ∃ ne, (e0 == 0) = ne ∧ ne = false := ⟨_, rfl, by rcases he with rfl | rfl <;> rfl⟩
  obtain ⟨hne, rfl⟩ := hne
  clear he
  go_enter Try.func10, Try.ntmps10
  go_wp2_with fail
  generalize w.alloc (.cells #[.int .i64 0, .int .i64 0, .string ⟨#[]⟩, .bool false] 29) = w1 at *
  refine (HLK.out _ HO1.out).mono ?_
  rintro e w2 ⟨rfl, ho⟩
  have HO2 : Hid (Only (fun _ => False) w (w2.alloc (.cells #[.int .i64 x.f, .int .i64 x.t, .string x.s, .bool x.h] 29))) := Lib.hid ((HO1.out.trans ho).alloc _)
  have HK2 := Lib.hid (((ho.alloc (.cells #[.int .i64 x.f, .int .i64 x.t, .string x.s, .bool x.h] 29))).blk HK1.out (fun h => h))
  have HC2 := Lib.hid (heap_alloc_new w2 (.cells #[.int .i64 x.f, .int .i64 x.t, .string x.s, .bool x.h] 29))
  have hd0 : (w2.alloc (.cells #[.int .i64 x.f, .int .i64 x.t, .string x.s, .bool x.h] 29)).cell? ⟨w2.heap.size, 0, none⟩ = some (.int .i64 x.f) := cell_at HC2.out 0 rfl
  clear ho
  go_wp2_with ((with_reducible refine gate_store (ty := 29) (x := .tmp 4) (y := .tmp 16) rfl ?_); go_loud (refine wpList_store_row rfl 29 (.tmp 4) (.tmp 16) rfl w.heap.size #[.int .i64 x.f, .int .i64 x.t, .string x.s, .bool x.h] rfl rfl 29 _ HK2.out (by kernel_rfl) rfl (by simp [Value.oneCell']) ?_))
  (try simp only [Exit.inBlock, Exit.then])
  exact bodyPost_ret (results_cell2 rfl _ _ w.heap.size 29 _ (0, 0) _ rfl (setRow_heap _ _ _ _ _ _ HK2.out) Try.underlying29 rfl (by kernel_rfl)) rfl ⟨rfl, only_setRow HO2.out (.inr (Nat.le_refl _)) _⟩

end Go.Proofs.Ythgkcjcmliaanaa.Bg

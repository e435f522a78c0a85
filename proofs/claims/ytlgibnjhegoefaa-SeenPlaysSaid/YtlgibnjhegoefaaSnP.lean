/- SeenPlays: the walk of the law. -/
import Derived.Test.YtlgibnjhegoefaaSnK
set_option linter.unusedVariables false
set_option linter.unusedSimpArgs false
namespace Go.Proofs.Ytlgibnjhegoefaa.Sn
open Go.RowKit Go.Maps Go.Proofs.Ytlgibnjhegoefaa.Base Go.Proofs.Ytlgibnjhegoefaa.Rws Go.Proofs.YtlgibnjhegoefaaW.PrintWords Go.Proofs.YtlgibnjhegoefaaW.PrintMore
attribute [local go_sem] max2_mx min2_mn max_two min_two max_three min_three max_four min_four

/-- A deed in a box. -/
def D6 (w : World) (q : Nat) (j : K4) (u t : Int) : Prop := w.heap[q]? = some (.cells #[.int .i64 j.a, .int .i64 j.b, .int .i64 j.c, .int .i64 j.d, .int .i64 u, .int .i64 t] 31 (0, 0))

def C6 (w : World) (q : Nat) (j : K4) (u t : Int) : Prop :=
  w.cell? ⟨q, 0, none⟩ = some (.int .i64 j.a) ∧ w.cell? ⟨q, 1, none⟩ = some (.int .i64 j.b) ∧ w.cell? ⟨q, 2, none⟩ = some (.int .i64 j.c) ∧ w.cell? ⟨q, 3, none⟩ = some (.int .i64 j.d) ∧ w.cell? ⟨q, 4, none⟩ = some (.int .i64 u) ∧ w.cell? ⟨q, 5, none⟩ = some (.int .i64 t)

theorem D6.c {w : World} {q : Nat} {j : K4} {u t : Int} (h : D6 w q j u t) : C6 w q j u t :=
  ⟨cell_at h 0 rfl, cell_at h 1 rfl, cell_at h 2 rfl, cell_at h 3 rfl, cell_at h 4 rfl, cell_at h 5 rfl⟩

/-- Both, and a deed. -/
structure Both (w : World) (W g b h q : Nat) (v : Value) (L M : List (K4 × Int)) (j : K4) (u t : Int) : Prop where
  s : SS w g b L
  r : RB w h v
  i : Items w (fun _ => True) v M
  d : D6 w q j u t
  wb : W ≤ b
  wh : W ≤ h

theorem map_ne {w : World} {b : Nat} {L M : List (K4 × Int)} {P : Nat → Prop} {v : Value} (h : SM w b L) (hi : Items w P v M) : v.ownBlock ≠ some b := by
  obtain ⟨D, ⟨es, clock, hb, _⟩, _⟩ := h
  rcases hi with ⟨rfl, _⟩ | ⟨g, o, c, cells, rfl, _, hh, _⟩
  · simp [Value.ownBlock]
  · intro e
    simp [Value.ownBlock] at e
    subst e
    rw [hb] at hh
    cases hh

theorem cells_ne {w : World} {g h : Nat} {cs ds : Array Value} {t u : TypeId} (a : w.heap[g]? = some (.cells cs t (0, 0))) (b : w.heap[h]? = some (.cells ds u (0, 0))) (ht : t ≠ u) : g ≠ h := by
  rintro rfl
  rw [a] at b
  simp at b
  exact ht b.2

section
variable {w w' : World} {W g b h q : Nat} {v : Value} {L M : List (K4 × Int)} {j : K4} {u t : Int}

theorem Both.drew (H : Both w W g b h q v L M j u t) : Both w.drew W g b h q v L M j u t := ⟨⟨H.s.blk, H.s.map⟩, H.r, H.i, H.d, H.wb, H.wh⟩

theorem Both.mark (H : Both w W g b h q v L M j u t) (hj : j.wf) (hL : L.length ≤ 1000) :
    Calls Try.prog 9 #[.pointer (some ⟨g, 0, none⟩), j.v, .int .i64 u, .int .i64 t] w fun e w' => e = .returned (.bool (markL L j u t).1) ∧ Both w' W g b h q v (markL L j u t).2 M j u t ∧ Only (fun k => W ≤ k) w w' :=
  (mark_p w H.s j hj u t hL).mono fun e w' ⟨he, hs, ho⟩ => ⟨he, ⟨hs, ho.blk H.r (fun e => H.s.map.ne H.r e), H.i.only ho (fun k hk e => map_ne H.s.map H.i (by rw [hk, e])), ho.blk H.d (fun e => H.s.map.ne H.d e), H.wb, H.wh⟩, ho.mono (fun k e => e ▸ H.wb)⟩

theorem Both.markR (H : Both w W g b h q v L M j u t) (hL : M.length ≤ 1000) :
    Calls Try.prog 12 #[.pointer (some ⟨h, 0, none⟩), j.v, .int .i64 u, .int .i64 t] w fun e w' => e = .returned (.bool (markL M j u t).1) ∧ (∃ A c, Both w' W g b h q (.slice A (markL M j u t).2.length c) L (markL M j u t).2 j u t) ∧ Only (fun k => W ≤ k) w w' :=
  (mark_r w H.r H.i hL j u t).mono fun e w' ⟨he, v', hr, hi, ho⟩ => by
    obtain ⟨A, c, rfl, _⟩ := hi.form
    refine ⟨he, ⟨A, c, ⟨ho.blk H.s.blk (fun e => cells_ne H.s.blk H.r (by decide) e), H.s.map.only ho (fun e => H.s.map.ne H.r e.symm)⟩, hr, hi.to (fun _ _ => trivial), ho.blk H.d (fun e => cells_ne H.d H.r (by decide) e), H.wb, H.wh⟩, ho.mono (fun k e => e ▸ H.wh)⟩

theorem Both.only0 (H : Both w W g b h q v L M j u t) (k : Only (fun _ => False) w w') : Both w' W g b h q v L M j u t :=
  ⟨H.s.only k (fun h => h) (fun h => h), k.blk H.r (fun h => h), H.i.only k (fun _ _ h => h), k.blk H.d (fun h => h), H.wb, H.wh⟩

theorem Both.has (H : Both w W g b h q v L M j u t) (hj : j.wf) :
    Calls Try.prog 13 #[.pointer (some ⟨g, 0, none⟩), j.v] w fun e w' => e = .returned (.bool (kept L j)) ∧ Both w' W g b h q v L M j u t ∧ Only (fun k => W ≤ k) w w' :=
  (has_p w H.s j hj).mono fun e w' ⟨he, ho⟩ => ⟨he, H.only0 ho, ho.mono (fun _ h => h.elim)⟩

theorem Both.hasR (H : Both w W g b h q v L M j u t) (hL : M.length ≤ 1000) :
    Calls Try.prog 14 #[.pointer (some ⟨h, 0, none⟩), j.v] w fun e w' => e = .returned (.bool (kept M j)) ∧ Both w' W g b h q v L M j u t ∧ Only (fun k => W ≤ k) w w' :=
  (has_r w H.r H.i hL j).mono fun e w' ⟨he, ho⟩ => ⟨he, H.only0 ho, ho.mono (fun _ h => h.elim)⟩

theorem Both.len (H : Both w W g b h q v L M j u t) : Calls Try.prog 10 #[.pointer (some ⟨g, 0, none⟩)] w fun e w' => e = .returned (.int .i64 (L.length : Int)) ∧ w = w' := len_p w H.s
end

set_option maxHeartbeats 8000000 in
set_option maxRecDepth 100000 in
theorem plays_walk (A : Option Addr) (len cap : Nat) (w : World) (hd : Deeds w A len) (hlen : len ≤ maxLen) :
    Calls Try.prog 4 #[.slice A len cap] w fun e w' => e = .returned (.bool true) ∧ Below w.heap.size w w' := by
  unfold maxLen at hlen
  have HD := Lib.hid hd
  clear hd
  go_enter Try.func4, Try.ntmps4
  go_wp2_with fail
  refine (new_o w).mono ?_
  rintro e w1 ⟨g, b, rfl, h1, o1⟩
  have hw1 : w.heap.size ≤ w1.heap.size := o1.size
  have HS1 : Hid (SS (w1.alloc (.cells #[.slice none 0 0] 39)) g b []) := Lib.hid (h1.s.only (S := fun _ => False) ((Only.refl _ w1).alloc _) (fun h => h) (fun h => h))
  have HR1 : Hid (RB (w1.alloc (.cells #[.slice none 0 0] 39)) w1.heap.size (.slice none 0 0)) := Lib.hid (heap_alloc_new w1 _)
  have HB1 : Hid (Below w.heap.size w (w1.alloc (.cells #[.slice none 0 0] 39))) := Lib.hid (below_alloc (o1.below (Below.refl _ _) (Nat.le_refl _) (fun _ h => h.elim)) _)
  have HWB := Lib.hid h1.b
  clear h1 o1
  have hwh : w.heap.size ≤ w1.heap.size := hw1
  go_wp2
  generalize w1.alloc (.cells #[.slice none 0 0] 39) = w2 at *
  generalize w1.heap.size = h at *
  go_loopw [5] (fun vi wr => ∃ (L : List (K4 × Int)) (v : Value) (i : Int), vi = .int .i64 i ∧ 0 ≤ i ∧ i ≤ 80 ∧ Hid (SS wr g b L) ∧ Hid (RB wr h v) ∧ Hid (Items wr (fun _ => True) v L) ∧ Hid (Below w.heap.size w wr) ∧ Hid ((L.length : Int) ≤ i)) (fun vi _ => (80 - intOf vi).toNat)
  case atStart => exact ⟨[], _, 0, rfl, by omega, by omega, HS1, HR1, Lib.hid (Row.nil 5 50 w2 _), HB1, Lib.hid (by simp)⟩
  case round =>
    obtain ⟨L, v, i, rfl, hi0, hi1, HS, HR, HI, HB, HL⟩ := hrel
    have hgo : (i < (len : Int) ∧ i < 80) ∨ (i < (len : Int) ∧ ¬ i < 80) ∨ ¬ i < (len : Int) := by omega
    rcases hgo with ⟨hlt, h80⟩ | ⟨hlt, h80⟩ | hlt
    · obtain ⟨ad, j, u2, t, hA, hjw, a0, a1, a2, a3, a4, a5⟩ := HD.out i hi0 hlt
      cases hA
      have HJW := Lib.hid hjw
      have hc0 := (HB.out.cell (World.block_lt_of_cell? w _ a0)).trans a0
      have hc1 := (HB.out.cell (World.block_lt_of_cell? w _ a1)).trans a1
      have hc2 := (HB.out.cell (World.block_lt_of_cell? w _ a2)).trans a2
      have hc3 := (HB.out.cell (World.block_lt_of_cell? w _ a3)).trans a3
      have hc4 := (HB.out.cell (World.block_lt_of_cell? w _ a4)).trans a4
      have hc5 := (HB.out.cell (World.block_lt_of_cell? w _ a5)).trans a5
      clear a0 a1 a2 a3 a4 a5 hjw
      obtain ⟨q, hq⟩ : ∃ q, q = wr.heap.size := ⟨_, rfl⟩
      have H3 : Hid (Both (wr.alloc (.cells #[.int .i64 j.a, .int .i64 j.b, .int .i64 j.c, .int .i64 j.d, .int .i64 u2, .int .i64 t] 31)) w.heap.size g b h q v L L j u2 t) := Lib.hid (by
        have hO : Only (fun _ => False) wr (wr.alloc (.cells #[.int .i64 j.a, .int .i64 j.b, .int .i64 j.c, .int .i64 j.d, .int .i64 u2, .int .i64 t] 31)) := (Only.refl _ wr).alloc _
        exact ⟨HS.out.only hO (fun h => h) (fun h => h), hO.blk HR.out (fun h => h), HI.out.only hO (fun _ _ h => h), hq ▸ heap_alloc_new wr _, HWB.out, hwh⟩)
      have HB3 : Hid (Below w.heap.size w (wr.alloc (.cells #[.int .i64 j.a, .int .i64 j.b, .int .i64 j.c, .int .i64 j.d, .int .i64 u2, .int .i64 t] 31))) := Lib.hid (below_alloc HB.out _)
      have hml := mark_len L j u2 t
      obtain ⟨L2, hL2⟩ : ∃ L2, (markL L j u2 t).2 = L2 := ⟨_, rfl⟩
      obtain ⟨x, hx⟩ : ∃ x, (markL L j u2 t).1 = x := ⟨_, rfl⟩
      obtain ⟨y, hy⟩ : ∃ y, kept L2 j = y := ⟨_, rfl⟩
      rw [hL2] at hml
      have HLL2 : Hid ((L2.length : Int) ≤ i + 1) := Lib.hid (by have := HL.out; omega)
      have HM : Hid (∀ w' v' M, Both w' w.heap.size g b h q v' L M j u2 t → Calls Try.prog 9 #[.pointer (some ⟨g, 0, none⟩), .agg #[.int .i64 j.a, .int .i64 j.b, .int .i64 j.c, .int .i64 j.d], .int .i64 u2, .int .i64 t] w' fun e w'' => e = .returned (.bool x) ∧ Both w'' w.heap.size g b h q v' L2 M j u2 t ∧ Only (fun k => w.heap.size ≤ k) w' w'') := Lib.hid (fun w' v' M H => by
        have := H.mark HJW.out (by have := HL.out; omega)
        rwa [hL2, hx] at this)
      have HMR : Hid (∀ w' v' M, Both w' w.heap.size g b h q v' M L j u2 t → Calls Try.prog 12 #[.pointer (some ⟨h, 0, none⟩), .agg #[.int .i64 j.a, .int .i64 j.b, .int .i64 j.c, .int .i64 j.d], .int .i64 u2, .int .i64 t] w' fun e w'' => e = .returned (.bool x) ∧ (∃ A c, Both w'' w.heap.size g b h q (.slice A L2.length c) M L2 j u2 t) ∧ Only (fun k => w.heap.size ≤ k) w' w'') := Lib.hid (fun w' v' M H => by
        have := H.markR (by have := HL.out; omega)
        rwa [hL2, hx] at this)
      have HH : Hid (∀ w' v' M, Both w' w.heap.size g b h q v' L2 M j u2 t → Calls Try.prog 13 #[.pointer (some ⟨g, 0, none⟩), .agg #[.int .i64 j.a, .int .i64 j.b, .int .i64 j.c, .int .i64 j.d]] w' fun e w'' => e = .returned (.bool y) ∧ Both w'' w.heap.size g b h q v' L2 M j u2 t ∧ Only (fun k => w.heap.size ≤ k) w' w'') := Lib.hid (fun w' v' M H => by
        have := H.has HJW.out
        rwa [hy] at this)
      have HHR : Hid (∀ w' v' M, Both w' w.heap.size g b h q v' M L2 j u2 t → Calls Try.prog 14 #[.pointer (some ⟨h, 0, none⟩), .agg #[.int .i64 j.a, .int .i64 j.b, .int .i64 j.c, .int .i64 j.d]] w' fun e w'' => e = .returned (.bool y) ∧ Both w'' w.heap.size g b h q v' M L2 j u2 t ∧ Only (fun k => w.heap.size ≤ k) w' w'') := Lib.hid (fun w' v' M H => by
        have := H.hasR (by have := HLL2.out; omega)
        rwa [hy] at this)
      obtain ⟨d, hd⟩ : ∃ d, d = L2.length := ⟨_, rfl⟩
      have HLN : Hid (∀ w' v' M, Both w' w.heap.size g b h q v' L2 M j u2 t → Calls Try.prog 10 #[.pointer (some ⟨g, 0, none⟩)] w' fun e w'' => e = .returned (.int .i64 (d : Int)) ∧ w' = w'') := Lib.hid (fun w' v' M H => by
        have := H.len
        rwa [← hd] at this)
      rw [← hd] at HMR
      have HDL := Lib.hid hd
      clear hL2 hx hy hml hd
      go_wp2
      rw [← hq]
      generalize (wr.alloc (.cells #[.int .i64 j.a, .int .i64 j.b, .int .i64 j.c, .int .i64 j.d, .int .i64 u2, .int .i64 t] 31)) = w3 at *
      clear hq hc0 hc1 hc2 hc3 hc4 hc5
      refine wp_region_noPanic ?_
      refine wp_region_held_drew (S := (fun w' : World => w'.cell? ⟨q, 0, none⟩ = some (.int .i64 j.a) ∧ w'.cell? ⟨q, 1, none⟩ = some (.int .i64 j.b) ∧ w'.cell? ⟨q, 2, none⟩ = some (.int .i64 j.c) ∧ w'.cell? ⟨q, 3, none⟩ = some (.int .i64 j.d) ∧ w'.cell? ⟨q, 4, none⟩ = some (.int .i64 u2) ∧ w'.cell? ⟨q, 5, none⟩ = some (.int .i64 t))) (by kernel_rfl) ?_ (fun hHeld => ?_)
      · exact H3.out.d.c
      refine wpAnyH_take (i := 0) (v := ?v7) rfl (by kernel_rfl) (by kernel_rfl) (by kernel_rfl) (fun _ _ _ h => h) (Or.inl ⟨by rfl, ?hy7⟩) (by assumption) ?rest7
      case hy7 => (intro w hSw; (try dsimp only at hSw); go_simp; try with_reducible rfl)
      try simp only [Act.put, List.setIfInBounds_toArray, List.set_cons_zero, List.set_cons_succ]
      refine wpAnyH_take (i := 1) (v := ?v8) rfl (by kernel_rfl) (by kernel_rfl) (by kernel_rfl) (fun _ _ _ h => h) (Or.inl ⟨by rfl, ?hy8⟩) (by assumption) ?rest8
      case hy8 => (intro w hSw; (try dsimp only at hSw); go_simp; try with_reducible rfl)
      try simp only [Act.put, List.setIfInBounds_toArray, List.set_cons_zero, List.set_cons_succ]
      refine wpAnyH_take (i := 2) (v := ?v9) rfl (by kernel_rfl) (by kernel_rfl) (by kernel_rfl) (fun _ _ _ h => h) (Or.inl ⟨by rfl, ?hy9⟩) (by assumption) ?rest9
      case hy9 => (intro w hSw; (try dsimp only at hSw); go_simp; try with_reducible rfl)
      try simp only [Act.put, List.setIfInBounds_toArray, List.set_cons_zero, List.set_cons_succ]
      refine wpAnyH_take (i := 3) (v := ?v10) rfl (by kernel_rfl) (by kernel_rfl) (by kernel_rfl) (fun _ _ _ h => h) (Or.inl ⟨by rfl, ?hy10⟩) (by assumption) ?rest10
      case hy10 => (intro w hSw; (try dsimp only at hSw); go_simp; try with_reducible rfl)
      try simp only [Act.put, List.setIfInBounds_toArray, List.set_cons_zero, List.set_cons_succ]
      refine wpAnyH_take (i := 4) (v := ?v11) rfl (by kernel_rfl) (by kernel_rfl) (by kernel_rfl) (fun _ _ _ h => h) (Or.inl ⟨by rfl, ?hy11⟩) (by assumption) ?rest11
      case hy11 => (intro w hSw; (try dsimp only at hSw); go_simp; try with_reducible rfl)
      try simp only [Act.put, List.setIfInBounds_toArray, List.set_cons_zero, List.set_cons_succ]
      refine wpAnyH_take (i := 5) (v := ?v12) rfl (by kernel_rfl) (by kernel_rfl) (by kernel_rfl) (fun _ _ _ h => h) (Or.inl ⟨by rfl, ?hy12⟩) (by assumption) ?rest12
      case hy12 => (intro w hSw; (try dsimp only at hSw); go_simp; try with_reducible rfl)
      try simp only [Act.put, List.setIfInBounds_toArray, List.set_cons_zero, List.set_cons_succ]
      refine wpAnyH_take (i := 6) (v := ?v13) rfl (by kernel_rfl) (by kernel_rfl) (by kernel_rfl) (fun _ _ _ h => h) (Or.inl ⟨by rfl, ?hy13⟩) (by assumption) ?rest13
      case hy13 => (intro w hSw; (try dsimp only at hSw); go_simp; try with_reducible rfl)
      try simp only [Act.put, List.setIfInBounds_toArray, List.set_cons_zero, List.set_cons_succ]
      refine wpAnyH_take (i := 8) (v := ?v14) rfl (by kernel_rfl) (by kernel_rfl) (by kernel_rfl) (fun _ _ _ h => h) (Or.inl ⟨by rfl, ?hy14⟩) (by assumption) ?rest14
      case hy14 => (intro w hSw; (try dsimp only at hSw); go_simp; try with_reducible rfl)
      try simp only [Act.put, List.setIfInBounds_toArray, List.set_cons_zero, List.set_cons_succ]
      refine wpAnyH_take (i := 9) (v := ?v15) rfl (by kernel_rfl) (by kernel_rfl) (by kernel_rfl) (fun _ _ _ h => h) (Or.inl ⟨by rfl, ?hy15⟩) (by assumption) ?rest15
      case hy15 => (intro w hSw; (try dsimp only at hSw); go_simp; try with_reducible rfl)
      try simp only [Act.put, List.setIfInBounds_toArray, List.set_cons_zero, List.set_cons_succ]
      refine wpAnyH_take (i := 10) (v := ?v16) rfl (by kernel_rfl) (by kernel_rfl) (by kernel_rfl) (fun _ _ _ h => h) (Or.inl ⟨by rfl, ?hy16⟩) (by assumption) ?rest16
      case hy16 => (intro w hSw; (try dsimp only at hSw); go_simp; try with_reducible rfl)
      try simp only [Act.put, List.setIfInBounds_toArray, List.set_cons_zero, List.set_cons_succ]
      refine wpAnyH_take (i := 11) (v := ?v17) rfl (by kernel_rfl) (by kernel_rfl) (by kernel_rfl) (fun _ _ _ h => h) (Or.inl ⟨by rfl, ?hy17⟩) (by assumption) ?rest17
      case hy17 => (intro w hSw; (try dsimp only at hSw); go_simp; try with_reducible rfl)
      try simp only [Act.put, List.setIfInBounds_toArray, List.set_cons_zero, List.set_cons_succ]
      refine wpAnyH_take (i := 12) (v := ?v18) rfl (by kernel_rfl) (by kernel_rfl) (by kernel_rfl) (fun _ _ _ h => h) (Or.inl ⟨by rfl, ?hy18⟩) (by assumption) ?rest18
      case hy18 => (intro w hSw; (try dsimp only at hSw); go_simp; try with_reducible rfl)
      try simp only [Act.put, List.setIfInBounds_toArray, List.set_cons_zero, List.set_cons_succ]
      refine wpAnyH_take (i := 13) (v := ?v19) rfl (by kernel_rfl) (by kernel_rfl) (by kernel_rfl) (fun _ _ _ h => h) (Or.inl ⟨by rfl, ?hy19⟩) (by assumption) ?rest19
      case hy19 => (intro w hSw; (try dsimp only at hSw); go_simp; try with_reducible rfl)
      try simp only [Act.put, List.setIfInBounds_toArray, List.set_cons_zero, List.set_cons_succ]
      refine wpAnyH_take (i := 14) (v := ?v20) rfl (by kernel_rfl) (by kernel_rfl) (by kernel_rfl) (fun _ _ _ h => h) (Or.inl ⟨by rfl, ?hy20⟩) (by assumption) ?rest20
      case hy20 => (intro w hSw; (try dsimp only at hSw); go_simp; try with_reducible rfl)
      try simp only [Act.put, List.setIfInBounds_toArray, List.set_cons_zero, List.set_cons_succ]
      refine wpAnyH_ready (rs := [7]) (by kernel_rfl) (by simp) ?_
      refine AllReadyH.cons (o := _) rfl (fun K hK => ?_) ?_
      · go_simp
        (refine (HM.out _ _ _ (by exact (Both.drew H3.out))).mono ?_; rintro e w4 ⟨rfl, h4, o4⟩; have H4 := Lib.hid h4; have B4 := Lib.hid (o4.below (u := w) (B := w.heap.size) (below_drew HB3.out) HB3.out.size (fun _ h => h)); clear h4 o4)
        refine hK.out _ _ ?_ (fun hHeld => ?_)
        · exact H4.out.d.c
        · clear hK K
          try simp only [Act.put, List.setIfInBounds_toArray, List.set_cons_zero, List.set_cons_succ]
          refine wpAnyH_ready (rs := [15]) (by kernel_rfl) (by simp) ?_
          refine AllReadyH.cons (o := _) rfl (fun K hK => ?_) ?_
          · go_simp
            (refine (HMR.out _ _ _ H4.out).mono ?_; rintro e w5 ⟨rfl, ⟨A5, c5, h5⟩, o5⟩; have H5 := Lib.hid h5; have B5 := Lib.hid (o5.below (u := w) (B := w.heap.size) B4.out B4.out.size (fun _ h => h)); clear h5 o5)
            refine hK.out _ _ ?_ (fun hHeld => ?_)
            · exact H5.out.d.c
            · clear hK K
              try simp only [Act.put, List.setIfInBounds_toArray, List.set_cons_zero, List.set_cons_succ]
              refine wpAnyH_take (i := 16) (v := ?v28) rfl (by kernel_rfl) (by kernel_rfl) (by kernel_rfl) (fun _ _ _ h => h) (Or.inl ⟨by rfl, ?hy28⟩) (by assumption) ?rest28
              case hy28 => (intro w hSw; (try dsimp only at hSw); go_simp; try with_reducible rfl)
              try simp only [Act.put, List.setIfInBounds_toArray, List.set_cons_zero, List.set_cons_succ]
              refine wpAnyH_take (i := 17) (v := ?v29) rfl (by kernel_rfl) (by kernel_rfl) (by kernel_rfl) (fun _ _ _ h => h) (Or.inl ⟨by rfl, ?hy29⟩) (by assumption) ?rest29
              case hy29 => (intro w hSw; (try dsimp only at hSw); go_simp; try with_reducible rfl)
              try simp only [Act.put, List.setIfInBounds_toArray, List.set_cons_zero, List.set_cons_succ]
              refine wpAnyH_take (i := 18) (v := ?v30) rfl (by kernel_rfl) (by kernel_rfl) (by kernel_rfl) (fun _ _ _ h => h) (Or.inl ⟨by rfl, ?hy30⟩) (by assumption) ?rest30
              case hy30 => (intro w hSw; (try dsimp only at hSw); go_simp; try with_reducible rfl)
              try simp only [Act.put, List.setIfInBounds_toArray, List.set_cons_zero, List.set_cons_succ]
              refine wpAnyH_take (i := 19) (v := ?v31) rfl (by kernel_rfl) (by kernel_rfl) (by kernel_rfl) (fun _ _ _ h => h) (Or.inl ⟨by rfl, ?hy31⟩) (by assumption) ?rest31
              case hy31 => (intro w hSw; (try dsimp only at hSw); go_simp; try with_reducible rfl)
              try simp only [Act.put, List.setIfInBounds_toArray, List.set_cons_zero, List.set_cons_succ]
              refine wpAnyH_take (i := 20) (v := ?v32) rfl (by kernel_rfl) (by kernel_rfl) (by kernel_rfl) (fun _ _ _ h => h) (Or.inl ⟨by rfl, ?hy32⟩) (by assumption) ?rest32
              case hy32 => (intro w hSw; (try dsimp only at hSw); go_simp; try with_reducible rfl)
              try simp only [Act.put, List.setIfInBounds_toArray, List.set_cons_zero, List.set_cons_succ]
              refine wpAnyH_take (i := 22) (v := ?v33) rfl (by kernel_rfl) (by kernel_rfl) (by kernel_rfl) (fun _ _ _ h => h) (Or.inl ⟨by rfl, ?hy33⟩) (by assumption) ?rest33
              case hy33 => (intro w hSw; (try dsimp only at hSw); go_simp; try with_reducible rfl)
              try simp only [Act.put, List.setIfInBounds_toArray, List.set_cons_zero, List.set_cons_succ]
              refine wpAnyH_take (i := 23) (v := ?v34) rfl (by kernel_rfl) (by kernel_rfl) (by kernel_rfl) (fun _ _ _ h => h) (Or.inl ⟨by rfl, ?hy34⟩) (by assumption) ?rest34
              case hy34 => (intro w hSw; (try dsimp only at hSw); go_simp; try with_reducible rfl)
              try simp only [Act.put, List.setIfInBounds_toArray, List.set_cons_zero, List.set_cons_succ]
              refine wpAnyH_take (i := 24) (v := ?v35) rfl (by kernel_rfl) (by kernel_rfl) (by kernel_rfl) (fun _ _ _ h => h) (Or.inl ⟨by rfl, ?hy35⟩) (by assumption) ?rest35
              case hy35 => (intro w hSw; (try dsimp only at hSw); go_simp; try with_reducible rfl)
              try simp only [Act.put, List.setIfInBounds_toArray, List.set_cons_zero, List.set_cons_succ]
              refine wpAnyH_ready (rs := [21]) (by kernel_rfl) (by simp) ?_
              refine AllReadyH.cons (o := _) rfl (fun K hK => ?_) ?_
              · go_simp
                (refine (HH.out _ _ _ H5.out).mono ?_; rintro e w6 ⟨rfl, h6, o6⟩; have H6 := Lib.hid h6; have B6 := Lib.hid (o6.below (u := w) (B := w.heap.size) B5.out B5.out.size (fun _ h => h)); clear h6 o6)
                refine hK.out _ _ ?_ (fun hHeld => ?_)
                · exact H6.out.d.c
                · clear hK K
                  try simp only [Act.put, List.setIfInBounds_toArray, List.set_cons_zero, List.set_cons_succ]
                  refine wpAnyH_ready (rs := [25]) (by kernel_rfl) (by simp) ?_
                  refine AllReadyH.cons (o := _) rfl (fun K hK => ?_) ?_
                  · go_simp
                    (refine (HHR.out _ _ _ H6.out).mono ?_; rintro e w7 ⟨rfl, h7, o7⟩; have H7 := Lib.hid h7; have hx7 : w7.cell? ⟨h, 0, none⟩ = some (.slice A5 d c5) := cell_at h7.r 0 rfl; have B7 := Lib.hid (o7.below (u := w) (B := w.heap.size) B6.out B6.out.size (fun _ h => h)); clear h7 o7)
                    refine hK.out _ _ ?_ (fun hHeld => ?_)
                    · exact H7.out.d.c
                    · clear hK K
                      try simp only [Act.put, List.setIfInBounds_toArray, List.set_cons_zero, List.set_cons_succ]
                      refine wpAnyH_take (i := 26) (v := ?v21) rfl (by kernel_rfl) (by kernel_rfl) (by kernel_rfl) (fun _ _ _ h => h) (Or.inl ⟨by rfl, ?hy21⟩) (by assumption) ?rest21
                      case hy21 => (intro w hSw; (try dsimp only at hSw); go_simp; try with_reducible rfl)
                      try simp only [Act.put, List.setIfInBounds_toArray, List.set_cons_zero, List.set_cons_succ]
                      refine wpAnyH_take (i := 27) (v := ?v22) rfl (by kernel_rfl) (by kernel_rfl) (by kernel_rfl) (fun _ _ _ h => h) (Or.inl ⟨by rfl, ?hy22⟩) (by assumption) ?rest22
                      case hy22 => (intro w hSw; (try dsimp only at hSw); go_simp; try with_reducible rfl)
                      try simp only [Act.put, List.setIfInBounds_toArray, List.set_cons_zero, List.set_cons_succ]
                      refine wpAnyH_take (i := 28) (v := ?v23) rfl (by kernel_rfl) (by kernel_rfl) (by kernel_rfl) (fun _ _ _ h => h) (Or.inl ⟨by rfl, ?hy23⟩) (by assumption) ?rest23
                      case hy23 => (intro w hSw; (try dsimp only at hSw); go_simp; try with_reducible rfl)
                      try simp only [Act.put, List.setIfInBounds_toArray, List.set_cons_zero, List.set_cons_succ]
                      refine wpAnyH_take (i := 29) (v := ?v24) rfl (by kernel_rfl) (by kernel_rfl) (by kernel_rfl) (fun _ _ _ h => h) (Or.inl ⟨by rfl, ?hy24⟩) (by assumption) ?rest24
                      case hy24 => (intro w hSw; (try dsimp only at hSw); go_simp; try with_reducible rfl)
                      try simp only [Act.put, List.setIfInBounds_toArray, List.set_cons_zero, List.set_cons_succ]
                      refine wpAnyH_take (i := 31) (v := ?v25) rfl (by kernel_rfl) (by kernel_rfl) (by kernel_rfl) (fun _ _ _ h => h) (Or.inl ⟨by rfl, ?hy25⟩) (by assumption) ?rest25
                      case hy25 => (intro w hSw; (try dsimp only at hSw); go_simp; try with_reducible rfl)
                      try simp only [Act.put, List.setIfInBounds_toArray, List.set_cons_zero, List.set_cons_succ]
                      refine wpAnyH_take (i := 32) (v := ?v26) rfl (by kernel_rfl) (by kernel_rfl) (by kernel_rfl) (fun _ _ _ h => h) (Or.inl ⟨by rfl, ?hy26⟩) (by assumption) ?rest26
                      case hy26 => (intro w hSw; (try dsimp only at hSw); go_simp; try with_reducible rfl)
                      try simp only [Act.put, List.setIfInBounds_toArray, List.set_cons_zero, List.set_cons_succ]
                      refine wpAnyH_take (i := 33) (v := ?v27) rfl (by kernel_rfl) (by kernel_rfl) (by kernel_rfl) (fun _ _ _ h => h) (Or.inl ⟨by rfl, ?hy27⟩) (by assumption) ?rest27
                      case hy27 => (intro w hSw; (try dsimp only at hSw); go_simp; try with_reducible rfl)
                      try simp only [Act.put, List.setIfInBounds_toArray, List.set_cons_zero, List.set_cons_succ]
                      refine wpAnyH_ready (rs := [30, 34]) (by kernel_rfl) (by simp) ?_
                      refine AllReadyH.cons (o := _) rfl (fun K hK => ?_) ?_
                      · go_simp
                        (refine (HLN.out _ _ _ H7.out).mono ?_; rintro e w' ⟨rfl, rfl⟩)
                        refine hK.out _ _ ?_ (fun hHeld => ?_)
                        · exact H7.out.d.c
                        · clear hK K
                          try simp only [Act.put, List.setIfInBounds_toArray, List.set_cons_zero, List.set_cons_succ]
                          refine wpAnyH_ready (rs := [34]) (by kernel_rfl) (by simp) ?_
                          refine AllReadyH.cons (o := _) rfl (fun K hK => ?_) ?_
                          · go_simp
                            refine hK.out _ _ ?_ (fun hHeld => ?_)
                            · exact H7.out.d.c
                            · clear hK K
                              try simp only [Act.put, List.setIfInBounds_toArray, List.set_cons_zero, List.set_cons_succ]
                              refine wpAnyH_take (i := 35) (v := ?v1) rfl (by kernel_rfl) (by kernel_rfl) (by kernel_rfl) (fun _ _ _ h => h) (Or.inl ⟨by rfl, ?hy1⟩) (by assumption) ?rest1
                              case hy1 => (intro w hSw; (try dsimp only at hSw); go_simp; try with_reducible rfl)
                              try simp only [Act.put, List.setIfInBounds_toArray, List.set_cons_zero, List.set_cons_succ]
                              refine wpAnyH_take (i := 36) (v := ?v2) rfl (by kernel_rfl) (by kernel_rfl) (by kernel_rfl) (fun _ _ _ h => h) (Or.inl ⟨by rfl, ?hy2⟩) (by assumption) ?rest2
                              case hy2 => (intro w hSw; (try dsimp only at hSw); go_simp; try with_reducible rfl)
                              try simp only [Act.put, List.setIfInBounds_toArray, List.set_cons_zero, List.set_cons_succ]
                              refine wpAnyH_take (i := 37) (v := ?v3) rfl (by kernel_rfl) (by kernel_rfl) (by kernel_rfl) (fun _ _ _ h => h) (Or.inl ⟨by rfl, ?hy3⟩) (by assumption) ?rest3
                              case hy3 => (intro w hSw; (try dsimp only at hSw); go_simp; try with_reducible rfl)
                              try simp only [Act.put, List.setIfInBounds_toArray, List.set_cons_zero, List.set_cons_succ]
                              refine wpAnyH_done (by kernel_rfl) ?_ _
                              refine NoPanic.normal ?_
                              go_wp2
                              go_roundw
                              case rel => exact ⟨L2, _, i + 1, by go_num, by omega, by omega, Lib.hid H7.out.s, Lib.hid H7.out.r, Lib.hid H7.out.i, B7, HLL2⟩
                              case measure => simp [intOf]; omega
                          · exact AllReadyH.nil
                      · refine AllReadyH.cons (o := _) rfl (fun K hK => ?_) ?_
                        · go_simp
                          refine hK.out _ _ ?_ (fun hHeld => ?_)
                          · exact H7.out.d.c
                          · clear hK K
                            try simp only [Act.put, List.setIfInBounds_toArray, List.set_cons_zero, List.set_cons_succ]
                            refine wpAnyH_take (i := 35) (v := ?v4) rfl (by kernel_rfl) (by kernel_rfl) (by kernel_rfl) (fun _ _ _ h => h) (Or.inl ⟨by rfl, ?hy4⟩) (by assumption) ?rest4
                            case hy4 => (intro w hSw; (try dsimp only at hSw); go_simp; try with_reducible rfl)
                            try simp only [Act.put, List.setIfInBounds_toArray, List.set_cons_zero, List.set_cons_succ]
                            refine wpAnyH_ready (rs := [30]) (by kernel_rfl) (by simp) ?_
                            refine AllReadyH.cons (o := _) rfl (fun K hK => ?_) ?_
                            · go_simp
                              (refine (HLN.out _ _ _ H7.out).mono ?_; rintro e w' ⟨rfl, rfl⟩)
                              refine hK.out _ _ ?_ (fun hHeld => ?_)
                              · exact H7.out.d.c
                              · clear hK K
                                try simp only [Act.put, List.setIfInBounds_toArray, List.set_cons_zero, List.set_cons_succ]
                                refine wpAnyH_take (i := 36) (v := ?v5) rfl (by kernel_rfl) (by kernel_rfl) (by kernel_rfl) (fun _ _ _ h => h) (Or.inl ⟨by rfl, ?hy5⟩) (by assumption) ?rest5
                                case hy5 => (intro w hSw; (try dsimp only at hSw); go_simp; try with_reducible rfl)
                                try simp only [Act.put, List.setIfInBounds_toArray, List.set_cons_zero, List.set_cons_succ]
                                refine wpAnyH_take (i := 37) (v := ?v6) rfl (by kernel_rfl) (by kernel_rfl) (by kernel_rfl) (fun _ _ _ h => h) (Or.inl ⟨by rfl, ?hy6⟩) (by assumption) ?rest6
                                case hy6 => (intro w hSw; (try dsimp only at hSw); go_simp; try with_reducible rfl)
                                try simp only [Act.put, List.setIfInBounds_toArray, List.set_cons_zero, List.set_cons_succ]
                                refine wpAnyH_done (by kernel_rfl) ?_ _
                                refine NoPanic.normal ?_
                                go_wp2
                                go_roundw
                                case rel => exact ⟨L2, _, i + 1, by go_num, by omega, by omega, Lib.hid H7.out.s, Lib.hid H7.out.r, Lib.hid H7.out.i, B7, HLL2⟩
                                case measure => simp [intOf]; omega
                            · exact AllReadyH.nil
                        · exact AllReadyH.nil
                  · exact AllReadyH.nil
              · exact AllReadyH.nil
          · exact AllReadyH.nil
      · exact AllReadyH.nil
    all_goals
      go_wp2_with (go_at_call 11; refine (awake_p _).mono ?_; rintro e w5 ⟨rfl, ho5⟩; have HO5 := Lib.hid ho5; clear ho5)
      go_ret
      exact ⟨rfl, HO5.out.below HB.out HB.out.size (fun _ h => h.elim)⟩

end Go.Proofs.Ytlgibnjhegoefaa.Sn

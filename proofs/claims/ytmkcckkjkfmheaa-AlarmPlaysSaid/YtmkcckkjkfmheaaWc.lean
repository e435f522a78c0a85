/- Wc: WhC, WhT, WhU, WhV, WhW, WhG in one text. -/
import Derived.Test.YtmkcckkjkfmheaaWa
import Derived.Test.YtmkcckkjkfmheaaWhLb
import Derived.StillTailTactics
import Derived.Shelf.SlSortCmp.NoneTotal
import Derived.Test.YtmkcckkjkfmheaaWhLs
/- Wheel: the closure that compares timers. -/
set_option linter.unusedVariables false
set_option linter.unusedSimpArgs false
set_option maxRecDepth 100000
namespace Go.Proofs.Ytmkcckkjkfmheaa.Wh
open Go.RowKit Go.Maps Go.Shelf Go.Lib Go.Sort Go.Proofs.Ytmkcckkjkfmheaa.Base Go.Proofs.Ytmkcckkjkfmheaa.Rws Go.Proofs.YtmkcckkjkfmheaaW.PrintWords Go.Proofs.YtmkcckkjkfmheaaW.PrintMore
attribute [local go_sem] max2_mx min2_mn max_two min_two max_three min_three max_four min_four

/-- cmp.Or of two. -/
theorem or_p (c1 c2 : Int) (W : World) (B : Nat) (h0 : W.cell? ⟨B, 0, none⟩ = some (.int .i64 c1)) (h1 : W.cell? ⟨B, 1, none⟩ = some (.int .i64 c2)) :
    Calls Try.prog 33 #[.slice (some ⟨B, 0, none⟩) 2 2] W fun e w' => e = .returned (.int .i64 (if c1 = 0 then c2 else c1)) ∧ W = w' := by
  by_cases e1 : c1 = 0
  · subst e1
    rw [if_pos rfl]
    by_cases e2 : c2 = 0
    · subst e2
      go_enter Try.func33, Try.ntmps33
      go_wp2
      refine wp_loop_rounds 3 ?_
      rw [rounds_succ]
      go_wp2
      rw [rounds_succ]
      go_wp2
      rw [rounds_succ]
      go_wp2
      go_ret
      exact ⟨rfl, rfl⟩
    · have hb : (c2 == 0) = false := by simpa using e2
      go_enter Try.func33, Try.ntmps33
      go_wp2
      refine wp_loop_rounds 2 ?_
      rw [rounds_succ]
      go_wp2
      rw [rounds_succ]
      go_wp2
      go_ret
      exact ⟨rfl, rfl⟩
  · rw [if_neg e1]
    have hb : (c1 == 0) = false := by simpa using e1
    go_enter Try.func33, Try.ntmps33
    go_wp2
    refine wp_loop_rounds 1 ?_
    rw [rounds_succ]
    go_wp2
    go_ret
    exact ⟨rfl, rfl⟩

set_option maxHeartbeats 4000000 in
set_option maxRecDepth 100000 in
theorem cmp_p (x y : Tm) (W : World) : Calls Try.prog 48 #[x.v, y.v] W fun e w' => e = .returned (.int .i64 (cfT x y)) ∧ ∃ q os', w' = grow (W.drewN q) os' := by
  obtain ⟨a, h, l, s⟩ := x
  obtain ⟨a', h', l', s'⟩ := y
  unfold Tm.v cfT
  simp only
  have HC1 := Lib.hid (Try.cmp_Compare_int a a')
  have HC2 := Lib.hid (Try.cmp_Compare_int h h')
  obtain ⟨c1, hc1⟩ : ∃ c1, c1 = Lib.compareInt a a' := ⟨_, rfl⟩
  obtain ⟨c2, hc2⟩ : ∃ c2, c2 = Lib.compareInt h h' := ⟨_, rfl⟩
  rw [← hc1] at HC1 ⊢
  rw [← hc2] at HC2 ⊢
  clear hc1 hc2
  obtain ⟨w1, hw1⟩ : ∃ w1, w1 = W.alloc (.cells #[.int .i64 a, .int .i64 h, .int .i64 l, .int .i64 s] 92) := ⟨_, rfl⟩
  obtain ⟨w2, hw2⟩ : ∃ w2, w2 = w1.alloc (.cells #[.int .i64 a', .int .i64 h', .int .i64 l', .int .i64 s'] 92) := ⟨_, rfl⟩
  obtain ⟨N, hN⟩ : ∃ N, N = W.heap.size := ⟨_, rfl⟩
  have hN1 : w1.heap.size = N + 1 := by rw [hw1, hN]; show (W.heap.push _).size = _; simp
  have hk1 : w1.heap[N]? = some (.cells #[.int .i64 a, .int .i64 h, .int .i64 l, .int .i64 s] 92 (0, 0)) := by rw [hw1, hN]; exact heap_alloc_new W _
  have hk2 : w2.heap[N]? = some (.cells #[.int .i64 a, .int .i64 h, .int .i64 l, .int .i64 s] 92 (0, 0)) := by rw [hw2]; exact (heap_alloc_old w1 _ (by omega)).trans hk1
  have hk3 : w2.heap[N + 1]? = some (.cells #[.int .i64 a', .int .i64 h', .int .i64 l', .int .i64 s'] 92 (0, 0)) := by rw [hw2, ← hN1]; exact heap_alloc_new w1 _
  have HN2 : Hid (w2.heap.size = N + 1 + 1) := by rw [hw2, ← hN1]; exact Lib.hid (by show (w1.heap.push _).size = _; simp)
  have HW : Hid (w2 = (W.alloc (.cells #[.int .i64 a, .int .i64 h, .int .i64 l, .int .i64 s] 92)).alloc (.cells #[.int .i64 a', .int .i64 h', .int .i64 l', .int .i64 s'] 92)) := Lib.hid (by rw [hw2, hw1])
  have y0 : w2.cell? ⟨N, 0, none⟩ = some (.int .i64 a) := cell_at hk2 0 rfl
  have y1 : w2.cell? ⟨N, 1, none⟩ = some (.int .i64 h) := cell_at hk2 1 rfl
  have y2 : w2.cell? ⟨N + 1, 0, none⟩ = some (.int .i64 a') := cell_at hk3 0 rfl
  have y3 : w2.cell? ⟨N + 1, 1, none⟩ = some (.int .i64 h') := cell_at hk3 1 rfl
  have HOR : Hid (Calls Try.prog 33 #[.slice (some ⟨w2.drew.heap.size, 0, none⟩) 2 2] (w2.drew.alloc (.cells #[.int .i64 c1, .int .i64 c2] 3)) fun e w' => e = .returned (.int .i64 (if c1 = 0 then c2 else c1)) ∧ (w2.drew.alloc (.cells #[.int .i64 c1, .int .i64 c2] 3)) = w') :=
    Lib.hid (or_p c1 c2 _ _ (cell_at (w := (w2.drew.alloc (.cells #[.int .i64 c1, .int .i64 c2] 3))) (heap_alloc_new w2.drew _) 0 rfl) (cell_at (w := (w2.drew.alloc (.cells #[.int .i64 c1, .int .i64 c2] 3))) (heap_alloc_new w2.drew _) 1 rfl))
  obtain ⟨cc, hcc⟩ : ∃ cc, cc = if c1 = 0 then c2 else c1 := ⟨_, rfl⟩
  rw [← hcc] at HOR ⊢
  clear hcc
  clear hk1 hk2 hk3 hN1
  go_enter Try.func48, Try.ntmps48
  go_wp2_with fail
  rw [← hw1, ← hw2, ← hN]
  clear hw1 hw2 hN
  go_still_tail 10, (by kernel_rfl)
  still_call (HC1.out _)
  repeat still_step
  still_call (HC2.out _)
  repeat still_step
  try refine wpStill_nil ?_
  change wpList _ _ _ _ _ w2.drew
  go_wp2_with (go_at_call 33; refine HOR.out.mono ?_; rintro e w' ⟨rfl, rfl⟩)
  go_ret
  refine ⟨rfl, 1, #[.cells #[.int .i64 a, .int .i64 h, .int .i64 l, .int .i64 s] 92, .cells #[.int .i64 a', .int .i64 h', .int .i64 l', .int .i64 s'] 92, .cells #[.int .i64 c1, .int .i64 c2] 3], ?_⟩
  rw [HW.out]
  rfl

theorem ltOf_T : ltOf cfT = ltT := rfl

end Go.Proofs.Ytmkcckkjkfmheaa.Wh

/- Wheel: sorting timers. -/
set_option linter.unusedVariables false
set_option linter.unusedSimpArgs false
set_option maxRecDepth 100000
namespace Go.Proofs.Ytmkcckkjkfmheaa.Wh
open Go.RowKit Go.Maps Go.Shelf Go.Lib Go.Sort Go.Proofs.Ytmkcckkjkfmheaa.Base Go.Proofs.Ytmkcckkjkfmheaa.Rws Go.Proofs.YtmkcckkjkfmheaaW.PrintWords Go.Proofs.YtmkcckkjkfmheaaW.PrintMore
attribute [local go_sem] max2_mx min2_mn max_two min_two max_three min_three max_four min_four

theorem flat_get (L : List Tm) (j : Nat) (hj : j < L.length * 4) : (L.flatMap encT)[j]? = some (flatK encT 4 L.toArray)[j]! := by
  have hi : j / 4 < L.length := by omega
  rw [get_flatK _ _ _ _ (by simpa using hj)]
  have h := encT_at L (j / 4) (j % 4) L[j / 4] (List.getElem?_eq_getElem hi) (Nat.mod_lt _ (by decide))
  rw [show j / 4 * 4 + j % 4 = j by omega] at h
  rw [h, getElem!_pos L.toArray (j / 4) (by simpa using hi), List.getElem_toArray]
  have hlt : j % 4 < (encT L[j / 4]).length := by simp [encT]; omega
  rw [List.getElem?_eq_getElem hlt, getElem!_pos (encT L[j / 4]) (j % 4) hlt]

theorem flat_len (L : List Tm) : (L.flatMap encT).length = L.length * 4 := by
  induction L with
  | nil => rfl
  | cons q L ih => rw [List.flatMap_cons, List.length_append, ih, List.length_cons]; simp [encT]; omega

theorem holds_of {w : World} {P : Nat → Prop} {q o c : Nat} {L : List Tm} (h : Row 4 92 w P (.slice (some ⟨q, o, none⟩) L.length c) L.length (L.flatMap encT)) : HoldsK encT 4 w q o L.toArray := by
  intro j hj
  rw [size_flatK] at hj
  exact ⟨Row.cell h j (flat_get L j (by simpa using hj)), Row.frozen h j⟩

/-- What is put into a row. -/
theorem put_row {w : World} {P : Nat → Prop} {q o c n : Nat} {L : List Tm} (h : Row 4 92 w P (.slice (some ⟨q, o, none⟩) n c) n (L.flatMap encT)) (d : Array Tm) (hd : d.size = n) (m : Nat) (os : Array Obj) :
    Row 4 92 (sortWorldK encT 4 w q o m d os) P (.slice (some ⟨q, o, none⟩) n c) n (d.toList.flatMap encT) ∧ Only (fun k => k = q) w (sortWorldK encT 4 w q o m d os) := by
  rcases h with ⟨h, _⟩ | ⟨q', o', c', cells, hv, hP, hh, h1, h2, h3, h4⟩
  · cases h
  · injection hv with e1 e2 e3
    injection e1 with e1
    injection e1 with e4 e5
    subst e3 e4 e5
    have hheap : (sortWorldK encT 4 w q o m d os).heap = w.heap.modify q (onCells (putCells id o (flatK encT 4 d))) ++ os := rfl
    have hq : q < w.heap.size := blk_lt hh
    constructor
    · refine .inr ⟨q, o, c, putCells id o (flatK encT 4 d) cells, rfl, hP, ?_, h1, by simpa [putCells] using h2, by rw [flat_len, Array.length_toList, hd], fun j u hu => ?_⟩
      · rw [hheap, Array.getElem?_append_left (by simpa using hq), Array.getElem?_modify, if_pos rfl, hh]
        rfl
      · have hj : j < n * 4 := by
          have := (List.getElem?_eq_some_iff.1 hu).1
          rw [flat_len, Array.length_toList, hd] at this
          exact this
        have hf := flat_get d.toList j (by rw [Array.length_toList, hd]; exact hj)
        rw [hu] at hf
        have hsz : o + j < cells.size := by
          have := Nat.mul_le_mul_right 4 h1.1
          omega
        unfold putCells
        rw [Array.getElem?_mapIdx, Array.getElem?_eq_getElem hsz, Option.map_some, if_pos ⟨by omega, by rw [size_flatK, hd]; omega⟩, Nat.add_sub_cancel_left, id, hf]
    · refine ⟨rfl, rfl, rfl, ?_, fun i hi hn => ?_⟩
      · rw [hheap]; simp
      · rw [hheap, Array.getElem?_append_left (by simpa using hi), Array.getElem?_modify, if_neg (fun e => hn e.symm)]

theorem isAgg60 (w : World) : (isAgg 92).run Try.prog w = .ok true w := by kernel_rfl
theorem sizeOf60 (w : World) : (Go.sizeOf 92).run Try.prog w = .ok 4 w := by kernel_rfl

theorem sort_p {w : World} {P : Nat → Prop} {v : Value} {out : List Tm} (h : Ts w P v out) (hl : out.length < 100000) :
    Calls Try.prog 47 #[v, .func (.func 48) #[] #[]] w fun e w' => e = .returned (.tuple #[]) ∧ ∃ out', Ts w' P v out' ∧ out'.map key = sortK (out.map key) ∧ Only (fun k => v.ownBlock = some k) w w' := by
  by_cases hn : out.length = 0
  · obtain ⟨A, c, hv, _⟩ := Row.form h
    rw [hn] at hv
    have h0 : out = [] := List.length_eq_zero_iff.1 hn
    rw [hv]
    have hS := AnyF.slices_SortFunc_none (P := Try.prog) (ρ := Try.sortT_ren) { Try.sortT with } A c (.func (.func 48) #[] #[]) w
    change Calls Try.prog 47 _ _ _ at hS
    refine hS.mono ?_
    rintro e w' ⟨rfl, rfl⟩
    refine ⟨rfl, out, by rw [← hv]; exact h, ?_, Only.refl _ _⟩
    rw [h0]
    exact (sortK_of (K := []) (K' := []) (.refl _) .nil)
  · obtain ⟨q, o, c, hv, hc⟩ := Row.some_ h (by omega)
    unfold Ts at h
    rw [hv] at h ⊢
    have eg : ∀ args w, (callFunc 48 args).run Try.prog w = .ok (.enter 48 args) w := enters_of Try.func48 (by kernel_rfl) rfl
    have hcmp : CmpLays Try.prog 48 #[] encT 4 cfT q o out.toArray.size w := fun _ _ _ _ x y => cmp_p x y _
    have hb : q < w.heap.size := (Row.own h (k := q) rfl).2
    have hS := AnyQ.slices_SortFunc (P := Try.prog) (ρ := Try.sortT_ren) Try.sortT 4 isAgg60 sizeOf60 encT (fun _ => rfl) (fun x v hv => by simp [encT] at hv; rcases hv with rfl | rfl | rfl | rfl <;> rfl) cfT swoT 48 #[] q o c out.toArray w eg hcmp (holds_of h) hb (by simp; omega)
    change Calls Try.prog 47 _ _ _ at hS
    rw [List.size_toArray] at hS
    refine hS.mono ?_
    rintro e w' ⟨rfl, d', n, os, hp, hs, rfl⟩
    have hk := sorted_keys (out := out) (d' := d') (by rw [List.size_toArray]; exact hp) (by rw [List.size_toArray]; exact hs)
    have hsz : d'.size = out.length := by simpa using hk.2.length_eq
    obtain ⟨hr, ho⟩ := put_row h d' hsz n os
    refine ⟨rfl, d'.toList, ?_, hk.1, ho.mono (fun k hk => by rw [hk]; rfl)⟩
    show Row 4 92 _ P (.slice (some ⟨q, o, none⟩) out.length c) d'.toList.length (d'.toList.flatMap encT)
    have : d'.toList.length = out.length := by rw [Array.length_toList, hsz]
    rw [this]
    exact hr

end Go.Proofs.Ytmkcckkjkfmheaa.Wh

/- Wheel: Advance. -/
set_option linter.unusedVariables false
set_option linter.unusedSimpArgs false
set_option maxRecDepth 100000
namespace Go.Proofs.Ytmkcckkjkfmheaa.Wh
open Go.RowKit Go.Maps Go.Proofs.Ytmkcckkjkfmheaa.Base Go.Proofs.Ytmkcckkjkfmheaa.Rws Go.Proofs.YtmkcckkjkfmheaaW.PrintWords Go.Proofs.YtmkcckkjkfmheaaW.PrintMore
attribute [local go_sem] max2_mx min2_mn max_two min_two max_three min_three max_four min_four

theorem Ts.all {W : World} {P P2 : Nat → Prop} {v v2 : Value} {L L2 : List Tm} (h : Ts W P v L) (h2 : Ts W P2 v2 L2) (hP : ∀ k, W.heap.size ≤ k → P k) (hb : L.length + L2.length ≤ 100000) (ty : TypeId) :
    ∃ v1 w1, (Builtin.append_ #[93, 93] ty #[v, v2]).run Try.prog W = .ok v1 w1 ∧ Ts w1 P v1 (L ++ L2) ∧ Only (fun k => v.ownBlock = some k) W w1 := by
  by_cases hn : L2.length = 0
  · obtain ⟨A, c, hv, _⟩ := Row.form h2
    rw [hn] at hv
    have h0 : L2 = [] := List.length_eq_zero_iff.1 hn
    rw [hv, h0, List.append_nil]
    exact ⟨v, W, Row.app0 h Try.underlying93 info60 A c, h, Only.refl _ _⟩
  · obtain ⟨q, o, c, hv, hc⟩ := Row.some_ h2 (by omega)
    unfold Ts at h2
    rw [hv] at h2 ⊢
    obtain ⟨v1, w1, hr, hR, ho⟩ := Row.app (ty := ty) h Try.underlying93 info60 (by rfl) hP ⟨q, o, none⟩ L2.length c (L2.flatMap encT) (flat_len L2) (fun j u hu => by
      rw [Addr.add_lit]
      exact Row.cell h2 j hu) (fun u hu => by
      obtain ⟨t, _, ht⟩ := List.mem_flatMap.1 hu
      simp [encT] at ht
      rcases ht with rfl | rfl | rfl | rfl <;> rfl) (by omega) hb (by omega)
    refine ⟨v1, w1, hr, ?_, ho⟩
    unfold Ts
    rw [List.length_append, List.flatMap_append]
    exact hR

theorem due_split {L out : List Tm} {n : Int} (h : out.Perm (L.filter (fun t => decide (t.at_ ≤ n)))) : ((out ++ L.filter (fun t => decide (n < t.at_))).map key).Perm (L.map key) := by
  refine (List.Perm.append_right _ h).map key |>.trans ?_
  have h2 := split_perm L (fun t => decide (t.at_ ≤ n))
  have e : L.filter (fun x => !decide (x.at_ ≤ n)) = L.filter (fun t => decide (n < t.at_)) := List.filter_congr (fun t _ => by
    by_cases h : t.at_ ≤ n
    · have h' : ¬ n < t.at_ := by omega
      simp [h, h']
    · have h' : n < t.at_ := by omega
      simp [h, h'])
  rw [e] at h2
  exact h2.map key

theorem adv_end {fired L : List Tm} {K : List (Int × Int)} {e : Int} (pm : ((fired ++ L).map key).Perm K) (hf : ∀ t ∈ fired, t.at_ ≤ e) (hl : ∀ t ∈ L, e < t.at_) : sortK (fired.map key) = sortK (K.filter (fun p => decide (p.1 ≤ e))) ∧ (L.map key).Perm (restK e K) := by
  constructor
  · refine sortK_eq ?_
    have h := pm.filter (fun p => decide (p.1 ≤ e))
    rw [List.map_append, List.filter_append, keys_split, keys_split, List.filter_eq_self.2 (fun t ht => decide_eq_true (hf t ht)), List.filter_eq_nil_iff.2 (fun t ht => by have := hl t ht; simp; omega), List.map_nil, List.append_nil] at h
    exact h
  · have h := pm.filter (fun p => decide (e < p.1))
    rw [List.map_append, List.filter_append, keys_rest, keys_rest, List.filter_eq_self.2 (fun t ht => decide_eq_true (hl t ht)), List.filter_eq_nil_iff.2 (fun t ht => by have := hf t ht; simp; omega), List.map_nil, List.nil_append] at h
    exact h

theorem WS.atNow {w : World} {g b : Nat} {F : Nat → Prop} {n last : Int} {L : List Tm} {vals : Nat → Value} {rows : Nat → List Int} (h : WS w g b F n last L vals rows) (m : Int) : WS (w.setCell ⟨g, 0, none⟩ (.int .i64 m)) g b F m last L vals rows ∧ Only (fun k => k = g) w (w.setCell ⟨g, 0, none⟩ (.int .i64 m)) := by
  have ho1 : Only (fun k => k = g) w (w.setCell ⟨g, 0, none⟩ (.int .i64 m)) := (Only.refl (fun k => k = g) w).setCell (p := ⟨g, 0, none⟩) (.inl rfl) _
  obtain ⟨cs5, hcs5⟩ := h.blk.isBlk
  have hgb := h.map.ne hcs5
  exact ⟨⟨h.blk.setNow _, h.map.only ho1 (fun e => hgb e.symm), fun i hi => Row.only (h.row i hi) ho1 (fun q hq e => Ks.ne (h.row i hi) hcs5 (by decide) (by rw [hq, e])), h.ap, h.fg, h.fb, fun k hk => Nat.lt_of_lt_of_le (h.flt k hk) ho1.size⟩, ho1⟩

/-- A list is taken off: its block is no longer the wheel's. -/
theorem WS.take {w : World} {g b : Nat} {F : Nat → Prop} {n last : Int} {L : List Tm} {vals : Nat → Value} {rows : Nat → List Int} (h : WS w g b F n last L vals rows) (i : Nat) (hi : i < 257) : WS (w.setCell ⟨g, 2 + i, none⟩ (.slice none 0 0)) g b (fun k => F k ∧ (vals i).ownBlock ≠ some k) n last L (upd vals i (.slice none 0 0)) (upd rows i []) ∧ Only (fun k => k = g) w (w.setCell ⟨g, 2 + i, none⟩ (.slice none 0 0)) := by
  have ho1 : Only (fun k => k = g) w (w.setCell ⟨g, 2 + i, none⟩ (.slice none 0 0)) := (Only.refl (fun k => k = g) w).setCell (p := ⟨g, 2 + i, none⟩) (.inl rfl) _
  obtain ⟨cs5, hcs5⟩ := h.blk.isBlk
  obtain ⟨es6, cl6, hm6⟩ := h.map.isMap
  have hgb := h.map.ne hcs5
  refine ⟨⟨h.blk.set i hi _, h.map.only ho1 (fun e => hgb e.symm), fun j hj => ?_, fun j hj k hk hjk q hq hq2 => ?_, ⟨h.fg, Ks.ne (h.row i hi) hcs5⟩, ⟨h.fb, Row.neMap (h.row i hi) hm6⟩, fun k hk => Nat.lt_of_lt_of_le (h.flt k hk.1) ho1.size⟩, ho1⟩
  · by_cases e : j = i
    · subst e
      rw [upd_same, upd_same]
      exact Row.nil _ _ _ _
    · rw [upd_other _ _ e, upd_other _ _ e]
      have h0 := h.row j hj
      exact Row.to (Row.only h0 ho1 (fun q hq e => Ks.ne h0 hcs5 (by decide) (by rw [hq, e]))) (fun k hk => ⟨(Row.own h0 hk).1, h.ap j hj i hi e k hk⟩)
  · by_cases e : j = i
    · subst e
      rw [upd_same] at hq
      simp [Value.ownBlock] at hq
    · rw [upd_other _ _ e] at hq
      by_cases e2 : k = i
      · subst e2
        rw [upd_same] at hq2
        simp [Value.ownBlock] at hq2
      · rw [upd_other _ _ e2] at hq2
        exact h.ap j hj k hk hjk q hq hq2

theorem drop_step {R : List Int} {k : Nat} {h : Int} (hn : R.Nodup) (hk : R[k]? = some h) : R.drop k = h :: R.drop (k + 1) ∧ (R.drop k).filter (fun x => decide (x ≠ h)) = R.drop (k + 1) := by
  obtain ⟨hlt, hh⟩ := List.getElem?_eq_some_iff.1 hk
  have hd : R.drop k = h :: R.drop (k + 1) := by rw [← hh]; exact List.drop_eq_getElem_cons hlt
  refine ⟨hd, ?_⟩
  have hn2 : (R.drop k).Nodup := hn.sublist (List.drop_sublist k R)
  rw [hd] at hn2 ⊢
  rw [List.nodup_cons] at hn2
  rw [List.filter_cons_of_neg (by simp)]
  exact List.filter_eq_self.2 (fun x hx => decide_eq_true (fun e => hn2.1 (e ▸ hx)))

/-- What Advance leaves. -/
def AdvPost (w : World) (g b : Nat) (F : Nat → Prop) (last e : Int) (K : List (Int × Int)) (en : Ending) (w' : World) : Prop :=
  ∃ v F' vals' rows' L', en = .returned v ∧ Ks w' (fun k => w.heap.size ≤ k ∧ ¬ F' k) v (outK e K) ∧ WS w' g b F' e last L' vals' rows' ∧ J e L' rows' [] ∧ (L'.map key).Perm (restK e K) ∧ (∀ k, F' k → F k ∨ w.heap.size ≤ k) ∧ Only F w w'

/-- The loop's state. -/
structure AdvL (w wr : World) (g b : Nat) (F F' : Nat → Prop) (n last to_ : Int) (K : List (Int × Int)) (v : Value) (fired L : List Tm) (vals : Nat → Value) (rows : Nat → List Int) : Prop where
  ts : Ts wr (fun k => w.heap.size ≤ k ∧ ¬ F' k) v fired
  ws : WS wr g b F' n last L vals rows
  j : J n L rows []
  lt : ∀ t ∈ L, n < t.at_
  le : n ≤ to_
  fi : ∀ t ∈ fired, t.at_ ≤ n
  pm : ((fired ++ L).map key).Perm K
  ff : ∀ k, F' k → F k ∨ w.heap.size ≤ k
  on : Only F w wr

set_option maxHeartbeats 8000000 in
set_option maxRecDepth 100000 in
theorem adv_p {w : World} {g b : Nat} {F : Nat → Prop} {n last : Int} {L : List Tm} {vals : Nat → Value} {rows : Nat → List Int} (x : Int) (hs : WS w g b F n last L vals rows) (j : J n L rows []) (hL : L.length ≤ 4096) {K : List (Int × Int)} (hK : (L.map key).Perm K) {to_ : Int} (hto : to_ = mx (cl x) n) :
    Calls Try.prog 29 #[.pointer (some ⟨g, 0, none⟩), .int .i64 x] w (AdvPost w g b F last to_ K) := by
  have HS := Lib.hid hs
  have HJ := Lib.hid j
  have HX : Hid (∀ w, Calls Try.prog 26 #[.int .i64 x] w fun e w' => e = .returned (.int .i64 (cl x)) ∧ w' = w) := Lib.hid (fun w => (clamp_p x w).mono fun _ _ h => ⟨h.1, h.2.symm⟩)
  have hcb := cl_bounds x
  obtain ⟨y, hy⟩ : ∃ y, y = cl x := ⟨_, rfl⟩
  rw [← hy] at HX hcb hto
  have HTB : Hid (n ≤ to_ ∧ 0 ≤ to_ ∧ to_ ≤ 1125899906842624) := Lib.hid (by have := j.n0; rw [hto]; unfold mx; split <;> omega)
  have HTO := Lib.hid hto
  have z0 := hs.blk.now
  have HL := Lib.hid hL
  have HKK := Lib.hid hK
  have HKL : Hid (K.length ≤ 4096) := Lib.hid (by rw [← hK.length_eq, List.length_map]; exact hL)
  clear hs j hy hcb hL hK hto
  go_enter Try.func29, Try.ntmps29
  go_wp2_with (go_at_call 43; refine (none_p HS.out.blk).mono ?_; rintro e w' ⟨rfl, rfl⟩)
  go_still_tail 6, (by kernel_rfl)
  still_call (HX.out _)
  repeat still_step
  try refine wpStill_nil ?_
  change wpList _ _ _ _ _ w.drew
  go_upto_region 4 with fail
  obtain ⟨w1, hw1⟩ : ∃ w1, w1 = w.drew := ⟨_, rfl⟩
  rw [← hw1]
  have HO1 : Hid (Only F w w1) := by rw [hw1]; exact Lib.hid (Only.refl _ w).drew
  have HSZ1 : Hid (w1.heap.size = w.heap.size) := by rw [hw1]; exact Lib.hid rfl
  have HS1 : Hid (WS w1 g b F n last L vals rows) := by rw [hw1]; exact Lib.hid (HS.out.only ((Only.refl (fun _ => False) w).drew) (fun _ _ h => h))
  clear hw1 z0
  rw [← HTO.out]
  have HCN : Hid (cl n = n) := Lib.hid (cl_same n HJ.out.n0.1 HJ.out.n0.2)
  go_wp2_with (go_at_call 45; refine (due_p HS1.out HJ.out HCN.out (fun i => Nat.le_trans (HJ.out.len i) (Nat.le_trans HL.out (by decide)))).mono ?_; rintro e w2 ⟨v, out, vals2, rfl, ht, hpm, hs2, ho2⟩)
  have HA : Hid (AdvL w w2 g b F F n last to_ K v out (L.filter (fun t => decide (n < t.at_))) vals2 (upd rows (n % 64).toNat [])) := Lib.hid
    ⟨Row.to ht (fun k hk => ⟨by have := (Row.own ht hk).1; have h2 := HSZ1.out; omega, fun hF => by have := HS1.out.flt k hF; have h2 := (Row.own ht hk).1; omega⟩), hs2, HJ.out.due.2,
      fun t ht => of_decide_eq_true (List.mem_filter.1 ht).2, HTB.out.1, fun t ht => of_decide_eq_true (List.mem_filter.1 (hpm.mem_iff.1 ht)).2,
      (due_split hpm).trans HKK.out, fun k hk => .inl hk, HO1.out.trans ho2⟩
  clear ht hpm hs2 ho2 HS1 HJ HKK
  go_loopw [5, 6, 7, 8, 9, 11] (fun v5 _ _ _ _ _ wr => ∃ (n' : Int) (F' : Nat → Prop) (fired L' : List Tm) (vals' : Nat → Value) (rows' : Nat → List Int), Hid (AdvL w wr g b F F' n' last to_ K v5 fired L' vals' rows')) (fun _ _ _ _ _ _ wr => (to_ - (match wr.cell? ⟨g, 0, none⟩ with | some u => RowKit.intOf u | none => 0)).toNat)
  case atStart => exact ⟨n, F, out, _, vals2, _, HA⟩
  case round =>
    obtain ⟨n', F', fired, L', vals', rows', HR⟩ := hrel
    have HCN' : Hid (cl n' = n') := Lib.hid (cl_same n' HR.out.j.n0.1 HR.out.j.n0.2)
    have HLL : Hid (∀ i, (rows' i).length ≤ 10000) := Lib.hid (fun i => by
      have h1 := HR.out.j.len i
      have h2 := HR.out.pm.length_eq
      have h3 := HKL.out
      simp only [List.length_map, List.length_append] at h2
      omega)
    by_cases hL' : L' = []
    · have HNX : Hid (Calls Try.prog 46 #[.pointer (some ⟨g, 0, none⟩)] wr fun e w' => e = .returned (.tuple #[.int .i64 0, .pointer none, .bool false]) ∧ Only (fun _ => False) wr w') := Lib.hid ((next_p HR.out.ws HR.out.j HCN'.out HR.out.lt HLL.out).mono (fun e w' h => by
        rcases h with ⟨ho, ⟨_, he⟩ | ⟨x', i, _, _, _, _, _, _, hne, _⟩⟩
        · exact ⟨he, ho⟩
        · exfalso
          obtain ⟨h, hm⟩ := List.exists_mem_of_ne_nil _ hne
          obtain ⟨_, t, ht, _⟩ := (HR.out.j.mem _ _).1 hm
          rw [hL'] at ht
          cases ht))
      have HNIL := Lib.hid hL'
      clear hL'
      have HE : Hid (J to_ L' rows' [] ∧ ∀ t ∈ L', to_ < t.at_) := Lib.hid (by
        have h0 := HNIL.out
        refine ⟨HR.out.j.stay HTB.out.2 (fun t ht => ?_), fun t ht => ?_⟩ <;> rw [h0] at ht <;> cases ht)
      go_upto_region 16 with (go_at_call 46; refine HNX.out.mono ?_; rintro e w3 ⟨rfl, ho3⟩; have HO3 := Lib.hid ho3; clear ho3)
      obtain ⟨A, cN, hu5, _⟩ := Row.form HR.out.ts
      obtain ⟨N, hN⟩ : ∃ N, N = fired.length := ⟨_, rfl⟩
      rw [← hN] at hu5
      subst hu5
      have HN := Lib.hid hN
      clear hN
      have HS3 := Lib.hid (HR.out.ws.only HO3.out (fun _ _ h => h))
      have HT3 := Lib.hid (Ts.only HR.out.ts HO3.out (fun _ _ h => h))
      have z3 := HS3.out.blk.now
      have f3 := HS3.out.blk.frozen 0
      obtain ⟨w4, hw4⟩ : ∃ w4, w4 = w3.setCell ⟨g, 0, none⟩ (.int .i64 to_) := ⟨_, rfl⟩
      have HW4 : Hid (WS w4 g b F' to_ last L' vals' rows' ∧ Only (fun k => k = g) w3 w4) := by rw [hw4]; exact Lib.hid (HS3.out.atNow to_)
      go_upto_region 17 with fail
      rw [← hw4]
      clear hw4 z3 f3
      have HT4 : Hid (Ts w4 (fun k => w.heap.size ≤ k ∧ ¬ F' k) (.slice A N cN) fired) := Lib.hid (Ts.only HT3.out HW4.out.2 (fun q hq e => (Row.own HT3.out hq).1.2 (by rw [e]; exact HS3.out.fg)))
      have HSO := Lib.hid (sort_p HT4.out (by have h1 := HR.out.pm.length_eq; have h2 := HKL.out; simp only [List.length_map, List.length_append] at h1; omega))
      go_wp2_with (go_at_call 47; refine HSO.out.mono ?_; rintro e w5 ⟨rfl, out', ht5, hk5, ho5⟩; have HT5 := Lib.hid ht5; have HK5 := Lib.hid hk5; have HO5 := Lib.hid ho5; clear ht5 hk5 ho5)
      have HNO : Hid (N = out'.length) := Lib.hid (by have h1 := congrArg List.length HK5.out; rw [(sortK_perm _).length_eq, List.length_map, List.length_map] at h1; rw [HN.out, h1])
      have HNB : Hid (N ≤ 4096) := Lib.hid (by have h1 := HR.out.pm.length_eq; have h2 := HKL.out; have h3 := HN.out; simp only [List.length_map, List.length_append] at h1; omega)
      go_loopw [12, 75, 14] (fun v12 v75 _ wr => ∃ (k : Nat), v75 = .int .i64 (k : Int) ∧ k ≤ N ∧ Hid (Ks wr (fun k => w5.heap.size ≤ k) v12 ((out'.take k).map Tm.h)) ∧ Hid (Only (fun _ => False) w5 wr)) (fun _ v75 _ _ => N - (RowKit.intOf v75).toNat)
      case atStart => exact ⟨0, rfl, Nat.zero_le _, Lib.hid (Row.nil _ _ _ _), Lib.hid (Only.refl _ _)⟩
      case round =>
        obtain ⟨k, rfl, hk, HKR, HOR⟩ := hrel
        have hgo : k < N ∨ k = N := by omega
        rcases hgo with hlt | rfl
        · have hlt' : (k : Int) < (N : Int) := by omega
          have hNb := HNB.out
          have hkr : k < out'.length := by rw [← HNO.out]; exact hlt
          have hge : out'[k]? = some out'[k] := List.getElem?_eq_getElem hkr
          obtain ⟨t, hte⟩ : ∃ t, t = out'[k] := ⟨_, rfl⟩
          rw [← hte] at hge
          obtain ⟨a, h, l, s⟩ := t
          have HGE := Lib.hid hge
          have hTr := Ts.only HT5.out HOR.out (fun _ _ h => h)
          unfold Ts at hTr
          rw [← HNO.out] at hTr
          obtain ⟨q2, o2, c2, he, hcc⟩ := Row.some_ hTr (by omega)
          injection he with e1 e2 e3
          subst e1 e3
          have hx0 : wr.cell? ⟨q2, o2 + k * 4, none⟩ = some (.int .i64 a) := Row.cell hTr (k * 4) (by have := encT_at out' k 0 _ hge (by decide); exact this)
          have hx1 : wr.cell? ⟨q2, o2 + k * 4 + 1, none⟩ = some (.int .i64 h) := Row.cell hTr (k * 4 + 1) (by have := encT_at out' k 1 _ hge (by decide); exact this)
          have hx2 : wr.cell? ⟨q2, o2 + k * 4 + 2, none⟩ = some (.int .i64 l) := Row.cell hTr (k * 4 + 2) (by have := encT_at out' k 2 _ hge (by decide); exact this)
          have hx3 : wr.cell? ⟨q2, o2 + k * 4 + 3, none⟩ = some (.int .i64 s) := Row.cell hTr (k * 4 + 3) (by have := encT_at out' k 3 _ hge (by decide); exact this)
          have y1 := box_cell wr #[.int .i64 a, .int .i64 h, .int .i64 l, .int .i64 s] 92 1 rfl
          have hOa : Only (fun _ => False) wr (wr.alloc (.cells #[.int .i64 a, .int .i64 h, .int .i64 l, .int .i64 s] 92)) := (Only.refl _ wr).alloc _
          have hKa : Ks (wr.alloc (.cells #[.int .i64 a, .int .i64 h, .int .i64 l, .int .i64 s] 92)) (fun k => w5.heap.size ≤ k) u12 ((out'.take k).map Tm.h) := Row.only HKR.out hOa (fun _ _ h => h)
          obtain ⟨v2, w2, hr2, t2, p2⟩ := Ks.app hKa (fun k hk => by have h1 := HOR.out.size; have h2 := hOa.size; omega) (by rw [List.length_map, List.length_take]; omega) h 42
          have hsz : (wr.alloc (.cells #[.int .i64 a, .int .i64 h, .int .i64 l, .int .i64 s] 92)).heap.size = wr.heap.size + 1 := by show (wr.heap.push _).size = _; simp
          rw [hsz] at hr2
          have HR2 := Lib.hid hr2
          have HT2 := Lib.hid t2
          have HP2 : Hid (Only (fun _ => False) w5 w2) := Lib.hid ((HOR.out.trans hOa).then_ p2 (fun k hk => .inr (Row.own hKa hk).1))
          clear hge hTr hcc hOa hKa hr2 t2 p2 hte hkr hsz
          go_wp2_with (first
            | ((with_reducible refine gate_builtin (b := .append) (xs := #[.tmp 79, .tmp 82]) rfl ?_); at_builtin; go_loud (refine Go.Lib.wpList_append_run_sl _ rfl (.tmp 79) (.tmp 82) 42 rfl _ _ rfl rfl HR2.out ?_)))
          go_roundw
          case rel =>
            refine ⟨k + 1, by go_num, by omega, Lib.hid ?_, HP2⟩
            rw [List.take_add_one, HGE.out, List.map_append]
            exact HT2.out
          case measure => simp [RowKit.intOf]; omega
        · have hge : ¬ (k : Int) < k := by omega
          go_wp2
          go_ret
          have hend := adv_end HR.out.pm (fun t ht => Int.le_trans (HR.out.fi t ht) HR.out.le) HE.out.2
          have hs5 := HW4.out.1.only HO5.out (fun q hq e => (Row.own HT4.out e).1.2 hq)
          have hsz5 : w.heap.size ≤ w5.heap.size := Nat.le_trans HR.out.on.size (Nat.le_trans HO3.out.size (Nat.le_trans HW4.out.2.size HO5.out.size))
          refine ⟨u12, F', vals', rows', L', rfl, ?_, hs5.only HOR.out (fun _ _ h => h), HE.out.1, hend.2, HR.out.ff, ((((HR.out.on.trans (HO3.out.mono (fun _ h => h.elim))).then_ HW4.out.2 (fun q hq => by rw [hq]; exact HR.out.ff g HR.out.ws.fg)).then_ HO5.out (fun q hq => .inr (Row.own HT4.out hq).1.1)).trans (HOR.out.mono (fun _ h => h.elim)))⟩
          have ho : (out'.take k).map Tm.h = outK to_ K := by
            rw [HNO.out, List.take_length]
            unfold outK
            rw [← hend.1, ← HK5.out, List.map_map]
            rfl
          have hk := HKR.out
          rw [ho] at hk
          exact Row.to hk (fun q hq => ⟨Nat.le_trans hsz5 (Row.own hk hq).1, fun hF => by have h1 := hs5.flt q hF; have h2 := (Row.own hk hq).1; omega⟩)
    · have HNX : Hid (Calls Try.prog 46 #[.pointer (some ⟨g, 0, none⟩)] wr fun e w' => ∃ (x' : Int) (i : Nat), e = .returned (.tuple #[.int .i64 x', .pointer (some ⟨g, 2 + i, none⟩), .bool true]) ∧ Only (fun _ => False) wr w' ∧ i < 257 ∧ n' < x' ∧ x' ≤ 1125899906842624 ∧ (∀ t ∈ L', x' ≤ t.at_) ∧ J x' L' (upd rows' i []) (rows' i) ∧ rows' i ≠ [] ∧ ∀ t ∈ L', ∀ m : Int, n' ≤ m → m < x' → place m t.at_ = place n' t.at_) := Lib.hid ((next_p HR.out.ws HR.out.j HCN'.out HR.out.lt HLL.out).mono (fun e w' h => by
        rcases h with ⟨ho, ⟨h, _⟩ | ⟨x', i, h1, h2, h3, h4, h5, h6, h7, h8⟩⟩
        · exact absurd h hL'
        · exact ⟨x', i, h2, ho, h1, h3, h4, h5, h6, h7, h8⟩))
      clear hL'
      go_upto_region 6 with (go_at_call 46; refine HNX.out.mono ?_; rintro e w3 ⟨x', i, rfl, ho3, hnx⟩; have HO3 := Lib.hid ho3; have HX3 := Lib.hid hnx; clear ho3 hnx)
      by_cases hx : to_ < x'
      · have hd : decide (to_ < x') = true := decide_eq_true hx
        have HE : Hid (J to_ L' rows' [] ∧ ∀ t ∈ L', to_ < t.at_) := Lib.hid (by
          obtain ⟨h1, h2, h3, h4, h5, h6, h7⟩ := HX3.out
          exact ⟨HR.out.j.stay HTB.out.2 (fun t ht => h7 t ht to_ HR.out.le hx), fun t ht => by have := h4 t ht; omega⟩)
        go_upto_region 16 with fail
        obtain ⟨A, cN, hu5, _⟩ := Row.form HR.out.ts
        obtain ⟨N, hN⟩ : ∃ N, N = fired.length := ⟨_, rfl⟩
        rw [← hN] at hu5
        subst hu5
        have HN := Lib.hid hN
        clear hN
        have HS3 := Lib.hid (HR.out.ws.only HO3.out (fun _ _ h => h))
        have HT3 := Lib.hid (Ts.only HR.out.ts HO3.out (fun _ _ h => h))
        have z3 := HS3.out.blk.now
        have f3 := HS3.out.blk.frozen 0
        obtain ⟨w4, hw4⟩ : ∃ w4, w4 = w3.setCell ⟨g, 0, none⟩ (.int .i64 to_) := ⟨_, rfl⟩
        have HW4 : Hid (WS w4 g b F' to_ last L' vals' rows' ∧ Only (fun k => k = g) w3 w4) := by rw [hw4]; exact Lib.hid (HS3.out.atNow to_)
        go_upto_region 17 with fail
        rw [← hw4]
        clear hw4 z3 f3
        have HT4 : Hid (Ts w4 (fun k => w.heap.size ≤ k ∧ ¬ F' k) (.slice A N cN) fired) := Lib.hid (Ts.only HT3.out HW4.out.2 (fun q hq e => (Row.own HT3.out hq).1.2 (by rw [e]; exact HS3.out.fg)))
        have HSO := Lib.hid (sort_p HT4.out (by have h1 := HR.out.pm.length_eq; have h2 := HKL.out; simp only [List.length_map, List.length_append] at h1; omega))
        go_wp2_with (go_at_call 47; refine HSO.out.mono ?_; rintro e w5 ⟨rfl, out', ht5, hk5, ho5⟩; have HT5 := Lib.hid ht5; have HK5 := Lib.hid hk5; have HO5 := Lib.hid ho5; clear ht5 hk5 ho5)
        have HNO : Hid (N = out'.length) := Lib.hid (by have h1 := congrArg List.length HK5.out; rw [(sortK_perm _).length_eq, List.length_map, List.length_map] at h1; rw [HN.out, h1])
        have HNB : Hid (N ≤ 4096) := Lib.hid (by have h1 := HR.out.pm.length_eq; have h2 := HKL.out; have h3 := HN.out; simp only [List.length_map, List.length_append] at h1; omega)
        go_loopw [12, 75, 14] (fun v12 v75 _ wr => ∃ (k : Nat), v75 = .int .i64 (k : Int) ∧ k ≤ N ∧ Hid (Ks wr (fun k => w5.heap.size ≤ k) v12 ((out'.take k).map Tm.h)) ∧ Hid (Only (fun _ => False) w5 wr)) (fun _ v75 _ _ => N - (RowKit.intOf v75).toNat)
        case atStart => exact ⟨0, rfl, Nat.zero_le _, Lib.hid (Row.nil _ _ _ _), Lib.hid (Only.refl _ _)⟩
        case round =>
          obtain ⟨k, rfl, hk, HKR, HOR⟩ := hrel
          have hgo : k < N ∨ k = N := by omega
          rcases hgo with hlt | rfl
          · have hlt' : (k : Int) < (N : Int) := by omega
            have hNb := HNB.out
            have hkr : k < out'.length := by rw [← HNO.out]; exact hlt
            have hge : out'[k]? = some out'[k] := List.getElem?_eq_getElem hkr
            obtain ⟨t, hte⟩ : ∃ t, t = out'[k] := ⟨_, rfl⟩
            rw [← hte] at hge
            obtain ⟨a, h, l, s⟩ := t
            have HGE := Lib.hid hge
            have hTr := Ts.only HT5.out HOR.out (fun _ _ h => h)
            unfold Ts at hTr
            rw [← HNO.out] at hTr
            obtain ⟨q2, o2, c2, he, hcc⟩ := Row.some_ hTr (by omega)
            injection he with e1 e2 e3
            subst e1 e3
            have hx0 : wr.cell? ⟨q2, o2 + k * 4, none⟩ = some (.int .i64 a) := Row.cell hTr (k * 4) (by have := encT_at out' k 0 _ hge (by decide); exact this)
            have hx1 : wr.cell? ⟨q2, o2 + k * 4 + 1, none⟩ = some (.int .i64 h) := Row.cell hTr (k * 4 + 1) (by have := encT_at out' k 1 _ hge (by decide); exact this)
            have hx2 : wr.cell? ⟨q2, o2 + k * 4 + 2, none⟩ = some (.int .i64 l) := Row.cell hTr (k * 4 + 2) (by have := encT_at out' k 2 _ hge (by decide); exact this)
            have hx3 : wr.cell? ⟨q2, o2 + k * 4 + 3, none⟩ = some (.int .i64 s) := Row.cell hTr (k * 4 + 3) (by have := encT_at out' k 3 _ hge (by decide); exact this)
            have y1 := box_cell wr #[.int .i64 a, .int .i64 h, .int .i64 l, .int .i64 s] 92 1 rfl
            have hOa : Only (fun _ => False) wr (wr.alloc (.cells #[.int .i64 a, .int .i64 h, .int .i64 l, .int .i64 s] 92)) := (Only.refl _ wr).alloc _
            have hKa : Ks (wr.alloc (.cells #[.int .i64 a, .int .i64 h, .int .i64 l, .int .i64 s] 92)) (fun k => w5.heap.size ≤ k) u12 ((out'.take k).map Tm.h) := Row.only HKR.out hOa (fun _ _ h => h)
            obtain ⟨v2, w2, hr2, t2, p2⟩ := Ks.app hKa (fun k hk => by have h1 := HOR.out.size; have h2 := hOa.size; omega) (by rw [List.length_map, List.length_take]; omega) h 42
            have hsz : (wr.alloc (.cells #[.int .i64 a, .int .i64 h, .int .i64 l, .int .i64 s] 92)).heap.size = wr.heap.size + 1 := by show (wr.heap.push _).size = _; simp
            rw [hsz] at hr2
            have HR2 := Lib.hid hr2
            have HT2 := Lib.hid t2
            have HP2 : Hid (Only (fun _ => False) w5 w2) := Lib.hid ((HOR.out.trans hOa).then_ p2 (fun k hk => .inr (Row.own hKa hk).1))
            clear hge hTr hcc hOa hKa hr2 t2 p2 hte hkr hsz
            go_wp2_with (first
              | ((with_reducible refine gate_builtin (b := .append) (xs := #[.tmp 79, .tmp 82]) rfl ?_); at_builtin; go_loud (refine Go.Lib.wpList_append_run_sl _ rfl (.tmp 79) (.tmp 82) 42 rfl _ _ rfl rfl HR2.out ?_)))
            go_roundw
            case rel =>
              refine ⟨k + 1, by go_num, by omega, Lib.hid ?_, HP2⟩
              rw [List.take_add_one, HGE.out, List.map_append]
              exact HT2.out
            case measure => simp [RowKit.intOf]; omega
          · have hge : ¬ (k : Int) < k := by omega
            go_wp2
            go_ret
            have hend := adv_end HR.out.pm (fun t ht => Int.le_trans (HR.out.fi t ht) HR.out.le) HE.out.2
            have hs5 := HW4.out.1.only HO5.out (fun q hq e => (Row.own HT4.out e).1.2 hq)
            have hsz5 : w.heap.size ≤ w5.heap.size := Nat.le_trans HR.out.on.size (Nat.le_trans HO3.out.size (Nat.le_trans HW4.out.2.size HO5.out.size))
            refine ⟨u12, F', vals', rows', L', rfl, ?_, hs5.only HOR.out (fun _ _ h => h), HE.out.1, hend.2, HR.out.ff, ((((HR.out.on.trans (HO3.out.mono (fun _ h => h.elim))).then_ HW4.out.2 (fun q hq => by rw [hq]; exact HR.out.ff g HR.out.ws.fg)).then_ HO5.out (fun q hq => .inr (Row.own HT4.out hq).1.1)).trans (HOR.out.mono (fun _ h => h.elim)))⟩
            have ho : (out'.take k).map Tm.h = outK to_ K := by
              rw [HNO.out, List.take_length]
              unfold outK
              rw [← hend.1, ← HK5.out, List.map_map]
              rfl
            have hk := HKR.out
            rw [ho] at hk
            exact Row.to hk (fun q hq => ⟨Nat.le_trans hsz5 (Row.own hk hq).1, fun hF => by have h1 := hs5.flt q hF; have h2 := (Row.own hk hq).1; omega⟩)
      · have hd : decide (to_ < x') = false := decide_eq_false hx
        have HXT : Hid (x' ≤ to_) := Lib.hid (by omega)
        clear hx
        have HS3 := Lib.hid (HR.out.ws.only HO3.out (fun _ _ h => h))
        have z3 := HS3.out.blk.now
        have f3 := HS3.out.blk.frozen 0
        obtain ⟨w4, hw4⟩ : ∃ w4, w4 = w3.setCell ⟨g, 0, none⟩ (.int .i64 x') := ⟨_, rfl⟩
        have HW4 : Hid (WS w4 g b F' x' last L' vals' rows' ∧ Only (fun k => k = g) w3 w4) := by rw [hw4]; exact Lib.hid (HS3.out.atNow x')
        have HIL : Hid (i < 257) := Lib.hid HX3.out.1
        have hv4 := HW4.out.1.blk.val i HIL.out
        have hf4 := HW4.out.1.blk.frozen (2 + i)
        have HKV := HW4.out.1.row i HIL.out
        obtain ⟨R, hR⟩ : ∃ R, R = rows' i := ⟨_, rfl⟩
        obtain ⟨V, hV⟩ : ∃ V, V = vals' i := ⟨_, rfl⟩
        rw [← hR, ← hV] at HKV
        rw [← hV] at hv4
        obtain ⟨A, cN, hVV, _⟩ := Row.form HKV
        obtain ⟨N, hN⟩ : ∃ N, N = R.length := ⟨_, rfl⟩
        rw [← hN] at hVV
        subst hVV
        obtain ⟨w5, hw5⟩ : ∃ w5, w5 = w4.setCell ⟨g, 2 + i, none⟩ (.slice none 0 0) := ⟨_, rfl⟩
        have hW5 := HW4.out.1.take i HIL.out
        rw [← hV, ← hw5] at hW5
        have HW5 := Lib.hid hW5
        have HK5 : Hid (Ks w5 F' (.slice A N cN) R) := Lib.hid (Row.only HKV hW5.2 (fun q hq e => by obtain ⟨cs5, hcs5⟩ := HW4.out.1.blk.isBlk; exact Ks.ne HKV hcs5 (by decide) (by rw [hq, e])))
        have HVA := Lib.hid hV
        have HN := Lib.hid hN
        have HR5 := Lib.hid hR
        clear hW5 HKV hN hR hV
        rw [hw4] at hv4 hf4 hw5
        go_upto_region 11 with fail
        rw [← hw5]
        clear hw5 hw4 hv4 hf4 z3 f3
        have HRM : Hid (∀ h ∈ R, ∃ t ∈ L', t.h = h) := Lib.hid (fun h hm => by
          rw [HR5.out] at hm
          obtain ⟨_, t, ht, hh, _⟩ := (HR.out.j.mem _ _).1 hm
          exact ⟨t, ht, hh⟩)
        have HND : Hid R.Nodup := by rw [HR5.out]; exact Lib.hid (HR.out.j.rnd i)
        have HJ5 : Hid (J x' L' (upd rows' i []) R) := by rw [HR5.out]; exact Lib.hid HX3.out.2.2.2.2.1
        have HLB : Hid (L'.length ≤ 4096) := Lib.hid (by have h1 := HR.out.pm.length_eq; have h2 := HKL.out; simp only [List.length_map, List.length_append] at h1; omega)
        have HNB : Hid (N ≤ 4096) := Lib.hid (by have h1 := HR.out.j.len i; have h2 := HLB.out; have h3 := HN.out; rw [HR5.out] at h3; omega)
        have HCX : Hid (cl x' = x') := Lib.hid (cl_same x' HJ5.out.n0.1 HJ5.out.n0.2)
        go_loopw [50, 11] (fun v50 _ wr => ∃ (k : Nat) (Fk : Nat → Prop) (Lk : List Tm) (valsk : Nat → Value) (rowsk : Nat → List Int), v50 = .int .i64 (k : Int) ∧ k ≤ N ∧ Hid (WS wr g b Fk x' last Lk valsk rowsk) ∧ Hid (J x' Lk rowsk (R.drop k)) ∧ Hid ((Lk.map key).Perm (L'.map key)) ∧ Hid (∀ q, Fk q → (F' q ∧ (Value.slice A N cN).ownBlock ≠ some q) ∨ w5.heap.size ≤ q) ∧ Hid (Only (fun q => F' q ∧ (Value.slice A N cN).ownBlock ≠ some q) w5 wr)) (fun v50 _ _ => N - (RowKit.intOf v50).toNat)
        case atStart => exact ⟨0, _, L', _, _, rfl, Nat.zero_le _, Lib.hid HW5.out.1, HJ5, Lib.hid (.refl _), Lib.hid (fun q hq => .inl hq), Lib.hid (Only.refl _ _)⟩
        case round =>
          obtain ⟨k, Fk, Lk, valsk, rowsk, rfl, hk, HWK, HJK, HPK, HFK, HOK⟩ := hrel
          have HLK : Hid (Lk.length ≤ 4096) := Lib.hid (by have h1 := HPK.out.length_eq; have h2 := HLB.out; simp only [List.length_map] at h1; omega)
          have hgo : k < N ∨ k = N := by omega
          rcases hgo with hlt | rfl
          · have hlt' : (k : Int) < (N : Int) := by omega
            have hNb := HNB.out
            have hkr : k < R.length := by rw [← HN.out]; exact hlt
            have hge : R[k]? = some R[k] := List.getElem?_eq_getElem hkr
            obtain ⟨h0, hh0⟩ : ∃ h0, h0 = R[k] := ⟨_, rfl⟩
            rw [← hh0] at hge
            have hmem : h0 ∈ Lk.map Tm.h := by
              obtain ⟨t, ht, hth⟩ := HRM.out h0 (by rw [hh0]; exact List.getElem_mem hkr)
              have h1 := (HPK.out.map Prod.snd).mem_iff (a := h0)
              rw [List.map_map, List.map_map] at h1
              exact h1.2 (List.mem_map.2 ⟨t, ht, hth⟩)
            obtain ⟨t, ht, hth⟩ := List.mem_map.1 hmem
            clear hmem hh0
            subst hth
            have HGE := Lib.hid hge
            have HTL := Lib.hid ht
            have hlk := HWK.out.map.look ht
            have hwf : (Lit.int .i64 t.h).wf = true := by obtain ⟨D, _, hhd⟩ := HWK.out.map; exact hhd.wf t ht
            have hbd := HJK.out.bd t ht
            have HPUT := Lib.hid (put_p HWK.out t HCX.out (cl_same _ hbd.1 hbd.2) hwf (fun i => Nat.le_trans (HJK.out.len i) (Nat.le_trans HLK.out (by decide))) (Nat.le_trans HLK.out (by decide)))
            have hm0 := HWK.out.blk.mapc
            have hKr := Row.only HK5.out HOK.out (fun q hq e => e.2 hq)
            rw [← HN.out] at hKr
            obtain ⟨q2, o2, c2, he, hcc⟩ := Row.some_ hKr (by omega)
            injection he with e1 e2 e3
            subst e1 e3
            obtain ⟨a, h, l, s⟩ := t
            have hx0 : wr.cell? ⟨q2, o2 + k, none⟩ = some (.int .i64 h) := Row.cell hKr k (by rw [List.getElem?_map, hge]; rfl)
            unfold Tm.v at hlk HPUT
            simp only at hlk HPUT
            clear hge ht hwf hbd hKr hcc hkr
            go_wp2_with (go_at_call 44; refine HPUT.out.mono ?_; rintro e w6 ⟨rfl, F6, vals6, hs6, hf6, ho6⟩; have HS6 := Lib.hid hs6; have HF6 := Lib.hid hf6; have HO6 := Lib.hid ho6; clear hs6 hf6 ho6)
            go_roundw
            case rel =>
              obtain ⟨hd, hdf⟩ := drop_step HND.out HGE.out
              have hbd := HJK.out.bd _ HTL.out
              have hj := HJK.out.put ⟨a, h, l, s⟩ hbd (fun i hm => ((HJK.out.mem i h).1 hm).1 (by rw [hd]; simp))
              rw [hdf] at hj
              refine ⟨k + 1, F6, _, vals6, _, by go_num, by omega, HS6, Lib.hid hj, Lib.hid ((putL_back HJK.out.nd HTL.out).trans HPK.out), Lib.hid (fun q hq => ?_), Lib.hid ?_⟩
              · rcases HF6.out q hq with h1 | h1
                · exact HFK.out q h1
                · exact .inr (Nat.le_trans HOK.out.size h1)
              · exact HOK.out.then_ HO6.out HFK.out
            case measure => simp [RowKit.intOf]; omega
          · have hge : ¬ (k : Int) < k := by omega
            have hj0 := HJK.out
            rw [HN.out, List.drop_length] at hj0
            have HJ0 := Lib.hid hj0
            have HDU := Lib.hid (due_p HWK.out hj0 HCX.out (fun i => Nat.le_trans (hj0.len i) (Nat.le_trans HLK.out (by decide))))
            have HT5 : Hid (Ts w5 (fun q => w.heap.size ≤ q ∧ ¬ F' q) u5 fired) := Lib.hid (by
              have h1 := Ts.only HR.out.ts HO3.out (fun _ _ h => h)
              exact Ts.only h1 (HW4.out.2.trans HW5.out.2) (fun q hq e => (Row.own h1 hq).1.2 (by rw [e]; exact HR.out.ws.fg)))
            have HOW : Hid (Only F w wr) := Lib.hid (((HR.out.on.trans (HO3.out.mono (fun _ h => h.elim))).then_ (HW4.out.2.trans HW5.out.2) (fun q hq => by rw [hq]; exact HR.out.ff g HR.out.ws.fg)).then_ HOK.out (fun q hq => HR.out.ff q hq.1))
            have HFW : Hid (∀ q, Fk q → F q ∨ w.heap.size ≤ q) := Lib.hid (fun q hq => by
              rcases HFK.out q hq with h1 | h1
              · exact HR.out.ff q h1.1
              · exact .inr (by have h2 := HR.out.on.size; have h3 := HO3.out.size; have h4 := HW4.out.2.size; have h5 := HW5.out.2.size; omega))
            have HQN : Hid (∀ q, u5.ownBlock = some q → w.heap.size ≤ q ∧ ¬ Fk q) := Lib.hid (fun q hq => by
              have h1 := Row.own HT5.out hq
              refine ⟨h1.1.1, fun hF => ?_⟩
              rcases HFK.out q hF with h2 | h2
              · exact h1.1.2 h2.1
              · have := h1.2; omega)
            have HTW : Hid (Ts wr (fun q => w.heap.size ≤ q ∧ ¬ Fk q) u5 fired) := Lib.hid (Row.to (Ts.only HT5.out HOK.out (fun q hq e => (Row.own HT5.out hq).1.2 e.1)) HQN.out)
            have HLE : Hid (fired.length ≤ 4096) := Lib.hid (by have h1 := HR.out.pm.length_eq; have h2 := HKL.out; simp only [List.length_map, List.length_append] at h1; omega)
            clear hj0
            go_wp2_with (first
              | (go_at_call 45; refine HDU.out.mono ?_; rintro e w7 ⟨v7, out7, vals7, rfl, ht7, hp7, hs7, ho7⟩
                 have hlen7 : out7.length ≤ 4096 := by rw [hp7.length_eq]; exact Nat.le_trans (List.length_filter_le _ _) HLK.out
                 have hTW7 := Ts.only HTW.out ho7 (fun q hq e => (Row.own HTW.out hq).1.2 e)
                 obtain ⟨v8, w8, hr8, t8, o8⟩ := Ts.all hTW7 ht7 (fun q hq => ⟨by have h1 := HOW.out.size; have h2 := ho7.size; omega, fun hF => by have h1 := HWK.out.flt q hF; have h2 := ho7.size; omega⟩) (by have := HLE.out; omega) 93
                 have HR8 := Lib.hid hr8
                 have HT8 := Lib.hid t8
                 have HO8 := Lib.hid o8
                 have HP7 := Lib.hid hp7
                 have HS7 := Lib.hid hs7
                 have HO7 := Lib.hid ho7
                 clear hlen7 hTW7 hr8 t8 o8 ht7 hp7 hs7 ho7)
              | ((with_reducible refine gate_builtin (b := .append) (xs := #[.tmp 63, .tmp 65]) rfl ?_); at_builtin; go_loud (refine Go.Lib.wpList_append_run_sl _ rfl (.tmp 63) (.tmp 65) 93 rfl _ _ rfl rfl HR8.out ?_)))
            go_roundw
            case rel =>
              refine ⟨x', Fk, fired ++ out7, _, vals7, _, Lib.hid ⟨HT8.out, HS7.out.only HO8.out (fun q hq e => (HQN.out q e).2 hq), HJ0.out.due.2, fun t ht => of_decide_eq_true (List.mem_filter.1 ht).2, HXT.out, fun t ht => ?_, ?_, HFW.out, (HOW.out.then_ HO7.out HFW.out).then_ HO8.out (fun q hq => .inr (HQN.out q hq).1)⟩⟩
              · rcases List.mem_append.1 ht with h1 | h1
                · exact Int.le_trans (HR.out.fi t h1) (Int.le_of_lt HX3.out.2.1)
                · exact of_decide_eq_true (List.mem_filter.1 (HP7.out.mem_iff.1 h1)).2
              · rw [List.append_assoc, List.map_append]
                refine List.Perm.trans ((((due_split HP7.out).trans HPK.out)).append_left _) ?_
                rw [← List.map_append]
                exact HR.out.pm
            case measure =>
              have h1 := HR.out.ws.blk.now
              have h2 := (HS7.out.only HO8.out (fun q hq e => (HQN.out q e).2 hq)).blk.now
              rw [h1, h2]
              have h3 := HX3.out.2.1
              have h4 := HXT.out
              simp only [RowKit.intOf]
              omega
end Go.Proofs.Ytmkcckkjkfmheaa.Wh

/- Wheel: First; Advance of a nil wheel. -/
set_option linter.unusedVariables false
set_option linter.unusedSimpArgs false
set_option maxRecDepth 100000
namespace Go.Proofs.Ytmkcckkjkfmheaa.Wh
open Go.RowKit Go.Maps Go.Proofs.Ytmkcckkjkfmheaa.Base Go.Proofs.Ytmkcckkjkfmheaa.Rws Go.Proofs.YtmkcckkjkfmheaaW.PrintWords Go.Proofs.YtmkcckkjkfmheaaW.PrintMore
attribute [local go_sem] max2_mx min2_mn max_two min_two max_three min_three max_four min_four

theorem adv_nil (x : Int) (w : World) : Calls Try.prog 29 #[.pointer none, .int .i64 x] w fun e w' => e = .returned (.slice none 0 0) ∧ w = w' := by
  go_enter Try.func29, Try.ntmps29
  go_wp2_with (go_at_call 43; refine (none_nil _).mono ?_; rintro e w' ⟨rfl, rfl⟩)
  go_ret
  exact ⟨rfl, rfl⟩

theorem Holds.of_at {D : DataW Unit} {L : List Tm} (h : Holds D L) {k : Int} {t : Tm} (hk : (Lit.int .i64 k).wf = true) (ha : ∀ z, D.atKey (.int .i64 k) z = datT t) : t ∈ L ∧ t.h = k := by
  by_cases hm : ∃ t' ∈ L, t'.h = k
  · obtain ⟨t', ht', rfl⟩ := hm
    have h1 := h.at_ ht' (datT t)
    rw [ha] at h1
    have := datT_inj h1
    subst this
    exact ⟨ht', rfl⟩
  · exfalso
    have hany : L.any (fun t => decide (t.h = k)) = false := by
      rw [List.any_eq_false]
      intro t ht
      have : t.h ≠ k := fun e => hm ⟨t, ht, e⟩
      simpa using this
    have hhas : Maps.has D (.int .i64 k) = false := by rw [h.has k hk]; exact hany
    have h1 := ha (.lit (.int .i64 0))
    rw [Maps.atKey_of_not_has hhas] at h1
    unfold datT at h1
    cases h1

theorem invK (key : Value) (kl : Lit) (h : keyOf Try.prog 3 key = some kl) : ∃ x : Int, key = .int .i64 x := by
  obtain ⟨x, rfl, _⟩ := Maps.keyOf_int_inv Try.underlying3 h
  exact ⟨x, rfl⟩
theorem invV (v : Value) (y : DataW Unit × List MemPlace) (h : rdT v = some y) : ∃ t : Tm, v = .agg #[.int .i64 t.at_, .int .i64 t.h, .int .i64 t.lv, .int .i64 t.sl] := by
  obtain ⟨t, rfl, _⟩ := rdT_inv h
  exact ⟨t, rfl⟩

theorem only_h : ∀ {L : List Tm}, (L.map Tm.h).Nodup → ∀ {t t' : Tm}, t ∈ L → t' ∈ L → t.h = t'.h → t = t'
  | [], _, t, t', ht, _, _ => by cases ht
  | q :: L, hn, t, t', ht, ht', h => by
    rw [List.map_cons, List.nodup_cons] at hn
    rcases List.mem_cons.1 ht with rfl | h1
    · rcases List.mem_cons.1 ht' with rfl | h2
      · rfl
      · exact absurd (List.mem_map.2 ⟨t', h2, h.symm⟩) hn.1
    · rcases List.mem_cons.1 ht' with rfl | h2
      · exact absurd (List.mem_map.2 ⟨t, h1, h⟩) hn.1
      · exact only_h hn.2 h1 h2 h

end Go.Proofs.Ytmkcckkjkfmheaa.Wh

/- Wheel: Cancel. -/
set_option linter.unusedVariables false
set_option linter.unusedSimpArgs false
set_option maxRecDepth 100000
namespace Go.Proofs.Ytmkcckkjkfmheaa.Wh
open Go.RowKit Go.Maps Go.Sort Go.Proofs.Ytmkcckkjkfmheaa.Base Go.Proofs.Ytmkcckkjkfmheaa.Rws Go.Proofs.YtmkcckkjkfmheaaW.PrintWords Go.Proofs.YtmkcckkjkfmheaaW.PrintMore
attribute [local go_sem] max2_mx min2_mn max_two min_two max_three min_three max_four min_four

theorem cancel_nil (x : Int) (w : World) : Calls Try.prog 42 #[.pointer none, .int .i64 x] w fun e w' => e = .returned (.bool false) ∧ w = w' := by
  go_enter Try.func42, Try.ntmps42
  go_wp2_with (go_at_call 43; refine (none_nil _).mono ?_; rintro e w' ⟨rfl, rfl⟩)
  go_ret
  exact ⟨rfl, rfl⟩

theorem cut_eq : ∀ {R : List Int} {i : Nat} {h : Int}, R.Nodup → R[i]? = some h → R.take i ++ R.drop (i + 1) = R.filter (fun x => decide (x ≠ h))
  | [], i, h, _, hi => by simp at hi
  | x :: R, 0, h, hn, hi => by
    simp at hi
    subst hi
    rw [List.nodup_cons] at hn
    rw [List.filter_cons_of_neg (by simp), List.take_zero, List.nil_append, List.drop_succ_cons, List.drop_zero]
    exact (List.filter_eq_self.2 (fun y hy => decide_eq_true (p := y ≠ x) (fun e => hn.1 (by rw [← e]; exact hy)))).symm
  | x :: R, i + 1, h, hn, hi => by
    rw [List.nodup_cons] at hn
    have hi' : R[i]? = some h := by simpa using hi
    have hx : x ≠ h := fun e => hn.1 (by rw [e]; exact List.mem_of_getElem? hi')
    rw [List.take_succ_cons, List.cons_append, List.drop_succ_cons, cut_eq hn.2 hi', List.filter_cons_of_pos (by simpa using hx)]

theorem J.cut {n : Int} {L : List Tm} {rows : Nat → List Int} (j : J n L rows []) {t : Tm} (ht : t ∈ L) : J n (L.filter (fun x => decide (x.h ≠ t.h))) (upd rows t.ix ((rows t.ix).filter (fun x => decide (x ≠ t.h)))) [] := by
  refine ⟨j.n0, j.nd.sublist ((List.filter_sublist).map _), fun x hx => j.bd x (List.mem_filter.1 hx).1, fun x hx _ => j.pl x (List.mem_filter.1 hx).1 (by simp), fun i => ?_, fun i h => ?_⟩
  · by_cases e : i = t.ix
    · subst e; rw [upd_same]; exact (j.rnd _).sublist List.filter_sublist
    · rw [upd_other _ _ e]; exact j.rnd i
  · by_cases e : i = t.ix
    · subst e
      rw [upd_same, List.mem_filter, j.mem]
      constructor
      · rintro ⟨⟨_, t', ht', rfl, hi⟩, hne⟩
        exact ⟨by simp, t', List.mem_filter.2 ⟨ht', by simpa using hne⟩, rfl, hi⟩
      · rintro ⟨_, t', ht', rfl, hi⟩
        have h1 := List.mem_filter.1 ht'
        exact ⟨⟨by simp, t', h1.1, rfl, hi⟩, by simpa using h1.2⟩
    · rw [upd_other _ _ e, j.mem]
      constructor
      · rintro ⟨_, t', ht', rfl, hi⟩
        refine ⟨by simp, t', List.mem_filter.2 ⟨ht', decide_eq_true (fun hh => ?_)⟩, rfl, hi⟩
        have := j.one ht' ht hh
        rw [this] at hi
        exact e hi.symm
      · rintro ⟨_, t', ht', rfl, hi⟩
        exact ⟨by simp, t', (List.mem_filter.1 ht').1, rfl, hi⟩

theorem ints_get (R : List Int) (j : Nat) (hj : j < R.length) : (R.map (Value.int .i64))[j]? = some (Value.int .i64 R.toArray[j]!) := by
  rw [List.getElem?_map, List.getElem?_eq_getElem hj, Option.map_some, getElem!_pos R.toArray j (by simpa using hj), List.getElem_toArray]

theorem holds_ints {w : World} {P : Nat → Prop} {q o c : Nat} {R : List Int} (h : Ks w P (.slice (some ⟨q, o, none⟩) R.length c) R) : Go.Sort.Holds (Value.int .i64) w q o R.toArray := by
  intro j hj
  exact ⟨Row.cell h j (ints_get R j (by simpa using hj)), Row.frozen h j⟩

/-- What is put into a row of whole numbers. -/
theorem put_ints {w : World} {P : Nat → Prop} {q o c n : Nat} {R R' : List Int} (h : Row 1 3 w P (.slice (some ⟨q, o, none⟩) n c) n (R.map (Value.int .i64))) (hl : R'.length = n) (m : Nat) :
    Row 1 3 (putRow (Value.int .i64) (Sort.ahead w m) q o R'.toArray) P (.slice (some ⟨q, o, none⟩) n c) n (R'.map (Value.int .i64)) ∧ Only (fun k => k = q) w (putRow (Value.int .i64) (Sort.ahead w m) q o R'.toArray) := by
  rcases h with ⟨h, _⟩ | ⟨q', o', c', cells, hv, hP, hh, h1, h2, h3, h4⟩
  · cases h
  · injection hv with e1 e2 e3
    injection e1 with e1
    injection e1 with e4 e5
    subst e3 e4 e5
    have hheap : (putRow (Value.int .i64) (Sort.ahead w m) q o R'.toArray).heap = w.heap.modify q (onCells (putCells (Value.int .i64) o R'.toArray)) := rfl
    have hq : q < w.heap.size := blk_lt hh
    constructor
    · refine .inr ⟨q, o, c, putCells (Value.int .i64) o R'.toArray cells, rfl, hP, ?_, h1, by simpa [putCells] using h2, by simpa using hl, fun j u hu => ?_⟩
      · rw [hheap, Array.getElem?_modify, if_pos rfl, hh]
        rfl
      · have hj : j < R'.length := by
          have := (List.getElem?_eq_some_iff.1 hu).1
          simpa using this
        have hf := ints_get R' j hj
        rw [hu] at hf
        have hsz : o + j < cells.size := by omega
        unfold putCells
        rw [Array.getElem?_mapIdx, Array.getElem?_eq_getElem hsz, Option.map_some, if_pos ⟨by omega, by rw [List.size_toArray]; omega⟩, Nat.add_sub_cancel_left, hf]
    · refine ⟨rfl, rfl, rfl, ?_, fun i hi hn => ?_⟩
      · rw [hheap]; simp
      · rw [hheap, Array.getElem?_modify, if_neg (fun e => hn e.symm)]

theorem del_row {w : World} {P : Nat → Prop} {q o c i : Nat} {R : List Int} {h : Int} (hK : Ks w P (.slice (some ⟨q, o, none⟩) R.length c) R) (hn : R.Nodup) (hge : R[i]? = some h) (m : Nat) :
    Ks (putRow (Value.int .i64) (Sort.ahead w m) q o (R.take i ++ R.drop (i + 1) ++ List.replicate (i + 1 - i) 0).toArray) P (.slice (some ⟨q, o, none⟩) (R.length - (i + 1 - i)) c) (R.filter (fun x => decide (x ≠ h))) ∧ Only (fun k => k = q) w (putRow (Value.int .i64) (Sort.ahead w m) q o (R.take i ++ R.drop (i + 1) ++ List.replicate (i + 1 - i) 0).toArray) := by
  have hi : i < R.length := (List.getElem?_eq_some_iff.1 hge).1
  have hl : (R.take i ++ R.drop (i + 1)).length = R.length - 1 := by rw [List.length_append, List.length_take, List.length_drop]; omega
  obtain ⟨h1, h2⟩ := put_ints (R' := R.take i ++ R.drop (i + 1) ++ List.replicate (i + 1 - i) 0) hK (by rw [List.length_append, hl, List.length_replicate]; omega) m
  refine ⟨?_, h2⟩
  have h3 := Row.pre h1 (R.length - 1) (by omega)
  rw [show R.length - (i + 1 - i) = R.length - 1 by omega]
  unfold Ks
  rw [← cut_eq hn hge, hl]
  rw [Nat.mul_one, ← List.map_take, List.take_append_of_le_length (by omega), List.take_of_length_le (l := R.take i ++ R.drop (i + 1)) (by omega)] at h3
  exact h3

/-- What is not there is not taken away. -/
theorem cancel_none {w : World} {g b : Nat} {n last : Int} {vals : Nat → Value} {L : List Tm} (k : Int) (hk : (Lit.int .i64 k).wf = true) (h : WB w g b n last vals) (hm : TM w b L) (hno : ∀ t ∈ L, t.h ≠ k) : Calls Try.prog 42 #[.pointer (some ⟨g, 0, none⟩), .int .i64 k] w fun e w' => e = .returned (.bool false) ∧ Only (fun _ => False) w w' := by
  have hc := h.mapc
  have H := Lib.hid h
  rcases hm.look_ok k hk with ⟨t, ht, hh, hlk⟩ | ⟨_, hlk⟩
  · exact absurd hh (hno t ht)
  · unfold Tm.v at hlk
    clear h hm hno hk
    go_enter Try.func42, Try.ntmps42
    go_wp2_with (go_at_call 43; refine (none_p H.out).mono ?_; rintro e w' ⟨rfl, rfl⟩)
    go_ret
    exact ⟨rfl, (Only.refl _ w).alloc _⟩

set_option maxHeartbeats 4000000 in
set_option maxRecDepth 100000 in
theorem cancel_p {w : World} {g b : Nat} {F : Nat → Prop} {n last : Int} {L : List Tm} {vals : Nat → Value} {rows : Nat → List Int} (hs : WS w g b F n last L vals rows) (j : J n L rows []) {t : Tm} (ht : t ∈ L) (hL : L.length ≤ 10000) :
    Calls Try.prog 42 #[.pointer (some ⟨g, 0, none⟩), .int .i64 t.h] w fun e w' => e = .returned (.bool true) ∧ PostW w g b F n last (L.filter (fun x => decide (x.h ≠ t.h))) (upd rows t.ix ((rows t.ix).filter (fun x => decide (x ≠ t.h)))) w' := by
  have HS := Lib.hid hs
  have HJ := Lib.hid j
  have HT := Lib.hid ht
  have hwf : (Lit.int .i64 t.h).wf = true := by obtain ⟨D, _, hhd⟩ := hs.map; exact hhd.wf t ht
  have HWF := Lib.hid hwf
  have hlk : (Instr.lookup 85 (.map (some b)) (.int .i64 t.h) true).run Try.prog w = .ok (.tuple #[t.v, .bool true]) w := by
    rcases hs.map.look_ok t.h hwf with ⟨t', ht', hh, hlk⟩ | ⟨hno, _⟩
    · rw [j.one ht' ht hh] at hlk
      exact hlk
    · exact absurd rfl (hno t ht)
  have hpl : (t.lv = 4 ∧ t.sl = 0) ∨ (0 ≤ t.lv ∧ t.lv ≤ 3 ∧ 0 ≤ t.sl ∧ t.sl < 64) := by
    have h1 := place_bd n t.at_
    have h2 := j.pl t ht (by simp)
    have e1 : t.lv = (place n t.at_).1 := congrArg Prod.fst h2
    have e2 : t.sl = (place n t.at_).2 := congrArg Prod.snd h2
    by_cases h4 : t.lv = 4
    · exact .inl ⟨h4, by rw [e2]; exact place_four (by rw [← e1]; exact h4)⟩
    · exact .inr (by omega)
  have HIX : Hid (t.ix < 257) := Lib.hid (by
    have h2 := j.pl t ht (by simp)
    have := ix_lt n t.at_
    unfold Tm.ix
    rw [show t.lv = (place n t.at_).1 from congrArg Prod.fst h2, show t.sl = (place n t.at_).2 from congrArg Prod.snd h2]
    exact this)
  have hmem : t.h ∈ rows t.ix := (j.mem _ _).2 ⟨by simp, t, ht, rfl, rfl⟩
  have HND := Lib.hid (j.rnd t.ix)
  have HRL : Hid ((rows t.ix).length ≤ 10000) := Lib.hid (Nat.le_trans (j.len t.ix) hL)
  have HLI := Lib.hid (fun W => list_p g t W hpl)
  have hc := hs.blk.mapc
  have HMM := Lib.hid hmem
  obtain ⟨a, h, l, s⟩ := t
  obtain ⟨X, hX⟩ : ∃ X, X = (⟨a, h, l, s⟩ : Tm).ix := ⟨_, rfl⟩
  rw [← hX] at HIX HND HRL HLI HMM ⊢
  have HX := Lib.hid hX
  unfold Tm.v at hlk HLI
  simp only at hlk HLI HMM HWF ⊢
  obtain ⟨R, hR⟩ : ∃ R, R = rows X := ⟨_, rfl⟩
  rw [← hR] at HND HRL HMM ⊢
  have HR := Lib.hid hR
  obtain ⟨w1, hw1⟩ : ∃ w1, w1 = w.alloc (.cells #[.int .i64 a, .int .i64 h, .int .i64 l, .int .i64 s] 92) := ⟨_, rfl⟩
  have y0 := box_cell w #[.int .i64 a, .int .i64 h, .int .i64 l, .int .i64 s] 92 0 rfl
  have y1 := box_cell w #[.int .i64 a, .int .i64 h, .int .i64 l, .int .i64 s] 92 1 rfl
  have y2 := box_cell w #[.int .i64 a, .int .i64 h, .int .i64 l, .int .i64 s] 92 2 rfl
  have y3 := box_cell w #[.int .i64 a, .int .i64 h, .int .i64 l, .int .i64 s] 92 3 rfl
  have HO1 : Hid (Only (fun _ => False) w w1) := by rw [hw1]; exact Lib.hid ((Only.refl _ w).alloc _)
  clear hs j ht hwf hpl hmem hX hR hL
  go_enter Try.func42, Try.ntmps42
  go_upto_region 6 with (go_at_call 43; refine (none_p HS.out.blk).mono ?_; rintro e w' ⟨rfl, rfl⟩)
  have HLIw := Lib.hid (HLI.out w1)
  rw [hw1] at HLIw
  clear hlk hc
  go_upto_region 7 with (go_at_call 56; refine HLIw.out.mono ?_; rintro e w2 ⟨rfl, o2⟩; have HO2 := Lib.hid o2; clear o2)
  rw [← hw1] at HO2
  clear hw1 y0 y1 y2 y3 HLIw
  have HOa : Hid (Only (fun _ => False) w w2) := Lib.hid (HO1.out.trans HO2.out)
  have HS2 := Lib.hid (HS.out.only HOa.out (fun _ _ h => h))
  have hv := HS2.out.blk.val X HIX.out
  have hfz := HS2.out.blk.frozen (2 + X)
  have hKV := HS2.out.row X HIX.out
  rw [← HR.out] at hKV
  have hpos : 0 < R.length := List.length_pos_of_mem HMM.out
  obtain ⟨q, o, c, hV, hcc⟩ := Row.some_ hKV hpos
  have HCC := Lib.hid hcc
  rw [hV] at hv hKV
  have HKV := Lib.hid hKV
  obtain ⟨i, hi, hie⟩ := List.getElem_of_mem HMM.out
  have hge : R[i]? = some h := by rw [List.getElem?_eq_getElem hi, hie]
  have HGE := Lib.hid hge
  have hidx : Calls Try.prog 57 #[.slice (some ⟨q, o, none⟩) R.length c, .int .i64 h] w2 fun e w' => e = .returned (.int .i64 (i : Int)) ∧ w2 = w' := by
    have h1 := Try.slices_Index_int q o R.length c R h w2 (Nat.le_refl _) (by have := HRL.out; omega) (fun j hj => by
      have := Row.cell hKV j (ints_get R j hj)
      rw [this, getElem!_pos R.toArray j (by simpa using hj)]
      simp [List.getD, List.getElem?_eq_getElem hj])
    rw [Lib.idxOf_hit R R.length i h hi (Nat.le_refl _) (by simp [List.getD, hge]) (fun k hk => by
      have hn := List.nodup_iff_pairwise_ne.1 HND.out
      rw [List.pairwise_iff_getElem] at hn
      have := hn k i (by omega) hi hk
      rw [hie] at this
      simpa [List.getD, List.getElem?_eq_getElem (show k < R.length by omega)] using this)] at h1
    exact h1.mono fun _ _ h => ⟨h.1, h.2.symm⟩
  have HIDX := Lib.hid hidx
  have hdel := Try.slices_Delete_int q o c i (i + 1) R w2 (holds_ints hKV) HCC.out (Row.cap hKV) (by omega) (by omega)
  have hdel2 : Calls Try.prog 58 #[.slice (some ⟨q, o, none⟩) R.length c, .int .i64 (i : Int), .int .i64 ((i : Int) + 1)] w2 fun e w' => e = .returned (.slice (some ⟨q, o, none⟩) (R.length - (i + 1 - i)) c) ∧ Ks w' F (.slice (some ⟨q, o, none⟩) (R.length - (i + 1 - i)) c) (R.filter (fun x => decide (x ≠ h))) ∧ Only (fun k => k = q) w2 w' := hdel.mono (fun e w' hh => by
    obtain ⟨he, m, rfl⟩ := hh
    obtain ⟨k1, k2⟩ := del_row hKV HND.out hge m
    exact ⟨he, k1, k2⟩)
  have HDEL := Lib.hid hdel2
  have HVX : Hid (vals X = .slice (some ⟨q, o, none⟩) R.length c) := Lib.hid hV
  have hNb := HRL.out
  obtain ⟨M, hM⟩ : ∃ M, M = R.length := ⟨_, rfl⟩
  rw [← hM] at hv HIDX HDEL hi hNb HKV HVX
  obtain ⟨M2, hM2⟩ : ∃ M2, M2 = M - (i + 1 - i) := ⟨_, rfl⟩
  rw [← hM2] at HDEL
  have HM := Lib.hid hM
  clear hM2
  clear hidx hdel hdel2 hge hie hKV hcc hpos hM hV
  go_upto_region 8 with (go_at_call 57; refine HIDX.out.mono ?_; rintro e w' ⟨rfl, rfl⟩)
  obtain ⟨cs2, hcs2⟩ := HS2.out.blk.isBlk
  have HQG : Hid (g ≠ q) := Lib.hid (fun e => Ks.ne (by have := HS2.out.row X HIX.out; rw [HVX.out] at this; exact this) hcs2 (by decide) (by rw [e]; rfl))
  clear hcs2
  go_upto_region 9 with (go_at_call 58; refine HDEL.out.mono ?_; rintro e w3 ⟨rfl, k3, o3⟩; have HK3 := Lib.hid k3; have HO3 := Lib.hid o3; have hb3 := HS2.out.blk.only o3 HQG.out; have hv3 := hb3.val X HIX.out; have hf3 := hb3.frozen (2 + X); have HB3 := Lib.hid hb3; rw [HVX.out] at hv3; clear k3 o3 hb3)
  obtain ⟨w4, hw4⟩ : ∃ w4, w4 = w3.setCell ⟨g, 2 + X, none⟩ (.slice (some ⟨q, o, none⟩) M2 c) := ⟨_, rfl⟩
  rw [← hw4]
  have og : Only (fun k => k = g) w3 w4 := by rw [hw4]; exact (Only.refl (fun k => k = g) w3).setCell (p := ⟨g, 2 + X, none⟩) (.inl rfl) _
  have hFq : F q := (Row.own HK3.out (k := q) rfl).1
  have hos : Only F w2 w4 := (HO3.out.mono (fun k hk => by rw [hk]; exact hFq)).trans (og.mono (fun k hk => by rw [hk]; exact HS.out.fg))
  obtain ⟨cs2, hcs2⟩ := HS2.out.blk.isBlk
  obtain ⟨cs3, hcs3⟩ := HB3.out.isBlk
  obtain ⟨esm, clm, hmb⟩ := HS2.out.map.isMap
  have hgb := HS2.out.map.ne hcs2
  have hqb : b ≠ q := fun e => Row.neMap HKV.out hmb (by rw [e]; rfl)
  have hb4 : WB w4 g b n last (upd vals X (.slice (some ⟨q, o, none⟩) M2 c)) := by rw [hw4]; exact HB3.out.set X HIX.out _
  have hm4 : TM w4 b L := (HS2.out.map.only HO3.out hqb).only og (fun h => hgb h.symm)
  have hr4 : ∀ i, i < 257 → Ks w4 F (upd vals X (.slice (some ⟨q, o, none⟩) M2 c) i) (upd rows X (R.filter (fun x => decide (x ≠ h))) i) := fun i hi => by
    by_cases e : i = X
    · subst e
      rw [upd_same, upd_same]
      exact Row.only HK3.out og (fun k hk e => Ks.ne HK3.out hcs3 (by decide) (by rw [hk, e]))
    · rw [upd_other _ _ e, upd_other _ _ e]
      have h0 := HS2.out.row i hi
      refine Row.only (Row.only h0 HO3.out (fun k hk h3 => HS2.out.ap i hi X HIX.out e k hk (by rw [HVX.out, h3]; rfl))) og (fun k hk e2 => ?_)
      exact Ks.ne h0 hcs2 (by decide) (by rw [hk, e2])
  have hap4 : ∀ i, i < 257 → ∀ j, j < 257 → i ≠ j → ∀ k, (upd vals X (.slice (some ⟨q, o, none⟩) M2 c) i).ownBlock = some k → (upd vals X (.slice (some ⟨q, o, none⟩) M2 c) j).ownBlock ≠ some k := by
    have hx : ∀ k, (Value.slice (some ⟨q, o, none⟩) M2 c).ownBlock = some k → (vals X).ownBlock = some k := fun k hk => by rw [HVX.out]; exact hk
    intro i hi j hj hij k hk hk2
    by_cases e : i = X
    · subst e
      rw [upd_same] at hk
      rw [upd_other _ _ (fun e => hij e.symm)] at hk2
      exact HS2.out.ap i hi j hj hij k (hx k hk) hk2
    · rw [upd_other _ _ e] at hk
      by_cases e2 : j = X
      · subst e2
        rw [upd_same] at hk2
        exact HS2.out.ap i hi j hj hij k hk (hx k hk2)
      · rw [upd_other _ _ e2] at hk2
        exact HS2.out.ap i hi j hj hij k hk hk2
  have hs4 : WS w4 g b F n last L (upd vals X (.slice (some ⟨q, o, none⟩) M2 c)) (upd rows X (R.filter (fun x => decide (x ≠ h)))) :=
    ⟨hb4, hm4, hr4, hap4, HS.out.fg, HS.out.fb, fun k hk => Nat.lt_of_lt_of_le (HS2.out.flt k hk) hos.size⟩
  have HS4 := Lib.hid hs4
  have HO4 : Hid (Only F w w4) := Lib.hid ((HOa.out.mono (fun _ h => h.elim)).trans hos)
  have hm0 := hb4.mapc
  have HGB := Lib.hid hgb
  obtain ⟨D, hown, hhd⟩ := hm4
  have HHD := Lib.hid hhd
  have HKE := Lib.hid (keyI HWF.out)
  clear hw4 og hFq hos hcs2 hcs3 hmb hgb hqb hb4 hr4 hap4 hs4 hhd hv hfz hv3 hf3 HS2 HKV HK3 HB3
  go_wp2_with (at_delete; go_loud (refine wpList_delete_own _ rfl _ _ 85 3 rfl 92 law Try.underlying85 _ b _ D rfl hown _ (.int .i64 h) rfl HKE.out ?_; intro w5 hown5 hturn; have HT5 := Lib.hid hown5; have HU5 := Lib.hid hturn; clear hown5 hturn))
  go_ret
  have o5 : Only (fun k => k = b) w4 w5 := (Only.refl (fun k => k = b) w4).grown HU5.out.grown (fun k hk => .inl (by simpa using hk.symm))
  obtain ⟨cs4, hcs4⟩ := HS4.out.blk.isBlk
  obtain ⟨es4, cl4, hm4⟩ := HS4.out.map.isMap
  exact ⟨rfl, F, _, ⟨HS4.out.blk.only o5 HGB.out, tight HT5.out (HHD.out.del h HWF.out), fun i hi => Row.only (HS4.out.row i hi) o5 (fun k hk e => Row.neMap (HS4.out.row i hi) hm4 (by rw [hk, e])), HS4.out.ap, HS4.out.fg, HS4.out.fb, fun k hk => Nat.lt_of_lt_of_le (HS4.out.flt k hk) o5.size⟩, fun k hk => .inl hk, HO4.out.trans (o5.mono (fun k hk => by rw [hk]; exact HS4.out.fb))⟩

end Go.Proofs.Ytmkcckkjkfmheaa.Wh

/- Wheel: each function in one word: what the wheel holds. -/
set_option linter.unusedVariables false
set_option linter.unusedSimpArgs false
set_option maxRecDepth 100000
namespace Go.Proofs.Ytmkcckkjkfmheaa.Wh
open Go.RowKit Go.Maps Go.Proofs.Ytmkcckkjkfmheaa.Base Go.Proofs.Ytmkcckkjkfmheaa.Rws Go.Proofs.YtmkcckkjkfmheaaW.PrintWords Go.Proofs.YtmkcckkjkfmheaaW.PrintMore
attribute [local go_sem] max2_mx min2_mn max_two min_two max_three min_three max_four min_four

abbrev KI : Kd Int := Kd.int .i64

/-- A wheel at g, at n, with these times and names. -/
def WH (w : World) (g : Nat) (F : Nat → Prop) (n last : Int) (K : List (Int × Int)) : Prop :=
  ∃ b L vals rows, WS w g b F n last L vals rows ∧ J n L rows [] ∧ (L.map key).Perm K ∧ (0 ≤ last ∧ last ≤ 100000) ∧ (∀ t ∈ L, 1 ≤ t.h ∧ t.h ≤ last) ∧ K.length ≤ 4096

theorem WH.only {w w' : World} {g : Nat} {F S : Nat → Prop} {n last : Int} {K : List (Int × Int)} (h : WH w g F n last K) (k : Only S w w') (hn : ∀ i, F i → ¬ S i) : WH w' g F n last K := by
  obtain ⟨b, L, vals, rows, hs, h2⟩ := h
  exact ⟨b, L, vals, rows, hs.only k hn, h2⟩

theorem WH.perm {w : World} {g : Nat} {F : Nat → Prop} {n last : Int} {K K' : List (Int × Int)} (h : WH w g F n last K) (hp : K.Perm K') : WH w g F n last K' := by
  obtain ⟨b, L, vals, rows, hs, h2, h3, h4, h5, h6⟩ := h
  exact ⟨b, L, vals, rows, hs, h2, h3.trans hp, h4, h5, by rw [← hp.length_eq]; exact h6⟩

theorem WH.flt {w : World} {g : Nat} {F : Nat → Prop} {n last : Int} {K : List (Int × Int)} (h : WH w g F n last K) (k : Nat) (hk : F k) : k < w.heap.size := by
  obtain ⟨b, L, vals, rows, hs, h2⟩ := h
  exact hs.flt k hk

theorem WH.nd {w : World} {g : Nat} {F : Nat → Prop} {n last : Int} {K : List (Int × Int)} (h : WH w g F n last K) : (K.map Prod.snd).Nodup := by
  obtain ⟨b, L, vals, rows, hs, h2, h3, h4, h5, h6⟩ := h
  have := h3.map Prod.snd
  rw [List.map_map] at this
  exact this.nodup_iff.1 h2.nd

theorem WH.n0 {w : World} {g : Nat} {F : Nat → Prop} {n last : Int} {K : List (Int × Int)} (h : WH w g F n last K) : 0 ≤ n ∧ n ≤ 1125899906842624 := by
  obtain ⟨b, L, vals, rows, hs, h2, h3, h4, h5, h6⟩ := h
  exact h2.n0

theorem WH.bd {w : World} {g : Nat} {F : Nat → Prop} {n last : Int} {K : List (Int × Int)} (h : WH w g F n last K) (p : Int × Int) (hp : p ∈ K) : (0 ≤ p.1 ∧ p.1 ≤ 1125899906842624) ∧ 1 ≤ p.2 ∧ p.2 ≤ last := by
  obtain ⟨b, L, vals, rows, hs, h2, h3, h4, h5, h6⟩ := h
  obtain ⟨t, ht, rfl⟩ := List.mem_map.1 (h3.mem_iff.2 hp)
  exact ⟨h2.bd t ht, h5 t ht⟩

theorem wh_new (x : Int) (w : World) : Calls Try.prog 24 #[.int .i64 x] w fun e w' => ∃ g F, e = .returned (.pointer (some ⟨g, 0, none⟩)) ∧ WH w' g F (cl x) 0 [] ∧ (∀ k, F k → w.heap.size ≤ k) ∧ Only (fun _ => False) w w' :=
  (new_p x w).mono fun e w' h => by
    obtain ⟨g, b, he, hs, h1, h2, ho⟩ := h
    refine ⟨g, _, he, ⟨b, [], _, _, hs, ?_, .refl _, by omega, fun t ht => (by cases ht), by simp⟩, fun k hk => (by rcases hk with rfl | rfl <;> assumption), ho⟩
    exact ⟨cl_bounds x, by simp, fun t ht => (by cases ht), fun t ht => (by cases ht), fun i => List.nodup_nil, fun i h => ⟨fun h => (by cases h), fun ⟨_, t, ht, _⟩ => (by cases ht)⟩⟩

theorem wh_add {w : World} {g : Nat} {F : Nat → Prop} {n last : Int} {K : List (Int × Int)} (x : Int) (h : WH w g F n last K) (hK : K.length < 4096) (hl : last < 100000) :
    Calls Try.prog 27 #[.pointer (some ⟨g, 0, none⟩), .int .i64 x] w fun e w' => e = .returned (.tuple #[.int .i64 (last + 1), .int .i64 0]) ∧ ∃ F', WH w' g F' n (last + 1) (K ++ [(cl x, last + 1)]) ∧ (∀ k, F' k → F k ∨ w.heap.size ≤ k) ∧ Only F w w' := by
  obtain ⟨b, L, vals, rows, hs, h2, h3, h4, h5, h6⟩ := h
  have hLK : L.length = K.length := by rw [← h3.length_eq, List.length_map]
  have hnew : ∀ y ∈ L, y.h ≠ last + 1 := fun y hy e => by have := h5 y hy; omega
  refine (add_p x hs (cl_same n h2.n0.1 h2.n0.2) h4.1 (by omega) (fun i => by have := h2.len i; omega) (by omega)).mono fun e w' hh => ?_
  obtain ⟨he, F', vals', hs', hf', ho'⟩ := hh
  have hj := h2.put ⟨cl x, last + 1, 0, 0⟩ (cl_bounds x) (fun i hm => by
    obtain ⟨_, t, ht, hh, _⟩ := (h2.mem i _).1 hm
    exact hnew t ht hh)
  refine ⟨he, F', ⟨b, _, vals', _, hs', hj, ?_, by omega, fun t ht => ?_, by rw [List.length_append, List.length_singleton]; omega⟩, hf', ho'⟩
  · rw [putL_new (t := ⟨cl x, last + 1, 0, 0⟩) hnew, List.map_append]
    exact h3.append_right _
  · rcases mem_putL.1 ht with ⟨h7, _⟩ | rfl
    · have := h5 t h7; omega
    · exact ⟨by show (1 : Int) ≤ last + 1; omega, by show last + 1 ≤ last + 1; omega⟩

theorem wh_full {w : World} {g : Nat} {F : Nat → Prop} {n last : Int} {K : List (Int × Int)} (x : Int) (h : WH w g F n last K) (hK : K.length = 4096) : Calls Try.prog 27 #[.pointer (some ⟨g, 0, none⟩), .int .i64 x] w fun e w' => e = .returned (.tuple #[.int .i64 0, .int .i64 6]) ∧ w = w' := by
  obtain ⟨b, L, vals, rows, hs, h2, h3, h4, h5, h6⟩ := h
  exact add_full x hs.blk hs.map (by rw [← hK, ← h3.length_eq, List.length_map])

theorem wh_adv {w : World} {g : Nat} {F : Nat → Prop} {n last : Int} {K : List (Int × Int)} (x : Int) (h : WH w g F n last K) {e : Int} (he : e = mx (cl x) n) :
    Calls Try.prog 29 #[.pointer (some ⟨g, 0, none⟩), .int .i64 x] w fun en w' => ∃ v F', en = .returned v ∧ Ks w' (fun k => w.heap.size ≤ k ∧ ¬ F' k) v (outK e K) ∧ WH w' g F' e last (restK e K) ∧ (∀ k, F' k → F k ∨ w.heap.size ≤ k) ∧ Only F w w' := by
  obtain ⟨b, L, vals, rows, hs, h2, h3, h4, h5, h6⟩ := h
  refine (adv_p x hs h2 (by rw [← h3.length_eq, List.length_map] at h6; exact h6) h3 he).mono fun en w' hh => ?_
  obtain ⟨v, F', vals', rows', L', hen, hk, hs', hj', hp', hf', ho'⟩ := hh
  refine ⟨v, F', hen, hk, ⟨b, L', vals', rows', hs', hj', hp', h4, fun t ht => ?_, Nat.le_trans (List.length_filter_le _ _) h6⟩, hf', ho'⟩
  have h7 : key t ∈ K := (List.mem_filter.1 (hp'.mem_iff.1 (List.mem_map.2 ⟨t, ht, rfl⟩))).1
  obtain ⟨t', ht', hk'⟩ := List.mem_map.1 (h3.mem_iff.2 h7)
  have : t'.h = t.h := congrArg Prod.snd hk'
  rw [← this]
  exact h5 t' ht'

theorem wh_cancel {w : World} {g : Nat} {F : Nat → Prop} {n last : Int} {K : List (Int × Int)} (k : Int) (hk : (Lit.int .i64 k).wf = true) (h : WH w g F n last K) :
    Calls Try.prog 42 #[.pointer (some ⟨g, 0, none⟩), .int .i64 k] w fun e w' => e = .returned (.bool (decide (k ∈ K.map Prod.snd))) ∧ ∃ F', WH w' g F' n last (K.filter (fun p => decide (p.2 ≠ k))) ∧ (∀ k, F' k → F k ∨ w.heap.size ≤ k) ∧ Only F w w' := by
  obtain ⟨b, L, vals, rows, hs, h2, h3, h4, h5, h6⟩ := h
  have hm := h3.map Prod.snd
  rw [List.map_map] at hm
  have hfilt : ((L.filter (fun x => decide (x.h ≠ k))).map key).Perm (K.filter (fun p => decide (p.2 ≠ k))) := by
    have := h3.filter (fun p => decide (p.2 ≠ k))
    rw [List.filter_map] at this
    exact this
  by_cases hin : ∃ t ∈ L, t.h = k
  · obtain ⟨t, ht, rfl⟩ := hin
    refine (cancel_p hs h2 ht (by have := h3.length_eq; rw [List.length_map] at this; omega)).mono fun e w' hh => ?_
    obtain ⟨he, F', vals', hs', hf', ho'⟩ := hh
    refine ⟨?_, F', ⟨b, _, vals', _, hs', h2.cut ht, hfilt, h4, fun t ht => h5 t (List.mem_filter.1 ht).1, Nat.le_trans (List.length_filter_le _ _) h6⟩, hf', ho'⟩
    have hin : t.h ∈ K.map Prod.snd := hm.mem_iff.1 (List.mem_map.2 ⟨t, ht, rfl⟩)
    rw [he, decide_eq_true hin]
  · have hno : ∀ t ∈ L, t.h ≠ k := fun t ht e => hin ⟨t, ht, e⟩
    refine (cancel_none k hk hs.blk hs.map hno).mono fun e w' hh => ?_
    obtain ⟨he, ho⟩ := hh
    refine ⟨?_, F, ⟨b, L, vals, rows, hs.only ho (fun _ _ h => h), h2, ?_, h4, h5, Nat.le_trans (List.length_filter_le _ _) h6⟩, fun k hk => .inl hk, ho.mono (fun _ h => h.elim)⟩
    · rw [he, decide_eq_false (fun hk => by
        obtain ⟨t, ht, hh⟩ := List.mem_map.1 (hm.mem_iff.2 hk)
        exact hno t ht hh)]
    · rw [List.filter_eq_self.2 (fun t ht => decide_eq_true (p := t.h ≠ k) (hno t ht))] at hfilt
      exact hfilt

/-! ### What is added in turn -/
def added (l : List Int) : List (Int × Int) := l.zipIdx.map (fun p => (cl p.1, (p.2 : Int) + 1))

theorem added_step {l : List Int} {j : Nat} {x : Int} (h : l[j]? = some x) : added (l.take (j + 1)) = added (l.take j) ++ [(cl x, (j : Int) + 1)] := by
  have hlt := (List.getElem?_eq_some_iff.1 h).1
  unfold added
  rw [List.take_add_one, h, Option.toList_some, List.zipIdx_append, List.map_append, List.length_take, Nat.min_eq_left (by omega)]
  simp

theorem added_len (l : List Int) : (added l).length = l.length := by simp [added]

theorem added_mem {l : List Int} {p : Int × Int} : p ∈ added l ↔ ∃ j : Nat, ∃ x, l[j]? = some x ∧ p = (cl x, (j : Int) + 1) := by
  unfold added
  rw [List.mem_map]
  constructor
  · rintro ⟨⟨x, j⟩, hm, rfl⟩
    exact ⟨j, x, List.mem_zipIdx_iff_getElem?.1 hm, rfl⟩
  · rintro ⟨j, x, hm, rfl⟩
    exact ⟨(x, j), List.mem_zipIdx_iff_getElem?.2 hm, rfl⟩

theorem clampR_p (a : Int) (w : World) : Calls Try.prog 14 #[.int .i64 a] w fun e w' => e = .returned (.int .i64 (cl a)) ∧ w = w' := by
  unfold cl
  split
  · go_enter Try.func14, Try.ntmps14
    go_wp2
    go_ret
    exact ⟨rfl, rfl⟩
  · split
    · go_enter Try.func14, Try.ntmps14
      go_wp2
      go_ret
      exact ⟨rfl, rfl⟩
    · go_enter Try.func14, Try.ntmps14
      go_wp2
      go_ret
      exact ⟨rfl, rfl⟩

theorem below_of {w w' : World} (h : Only (fun _ => False) w w') : Below w.heap.size w w' := h.below (Below.refl _ _) (Nat.le_refl _) (fun _ h => h.elim)

end Go.Proofs.Ytmkcckkjkfmheaa.Wh

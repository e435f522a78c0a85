/- Hist: Rows: the buckets in which there are some, rising. -/
import Derived.Test.YtognnjhphnhbfaaHiC
import Derived.Deep.AppendLies
import Derived.Lib.SlFresh
import Derived.Deep.RegionLaw
import Derived.Deep.RegionHeldLaw
set_option linter.unusedVariables false
set_option linter.unusedSimpArgs false
namespace Go.Proofs.Ytognnjhphnhbfaa.Hi
open Go.Sort (grow heap_grow_old putRow mapBlock onCells)
open Go.RowKit Go.Maps Go.Proofs.Ytognnjhphnhbfaa.Base Go.Proofs.Ytognnjhphnhbfaa.Rws Go.Proofs.YtognnjhphnhbfaaW.PrintWords Go.Proofs.YtognnjhphnhbfaaW.PrintMore
attribute [local go_sem] max2_mx min2_mn max_two min_two max_three min_three max_four min_four

/-- Each number of a list once. -/
def nub : List Int → List Int
  | [] => []
  | x :: l => if x ∈ l then nub l else x :: nub l
theorem mem_nub {x : Int} : ∀ {l : List Int}, x ∈ nub l ↔ x ∈ l
  | [] => by simp [nub]
  | y :: l => by
    unfold nub
    have ih := mem_nub (x := x) (l := l)
    split
    · rename_i h
      rw [ih, List.mem_cons]
      constructor
      · exact .inr
      · rintro (rfl | h2)
        · exact h
        · exact h2
    · rw [List.mem_cons, List.mem_cons, ih]
theorem nodup_nub : ∀ (l : List Int), (nub l).Nodup
  | [] => List.nodup_nil
  | y :: l => by
    unfold nub
    split
    · exact nodup_nub l
    · rename_i h
      exact List.nodup_cons.2 ⟨fun h2 => h (mem_nub.1 h2), nodup_nub l⟩
theorem nub_len : ∀ (l : List Int), (nub l).length ≤ l.length
  | [] => Nat.le_refl _
  | y :: l => by
    have := nub_len l
    unfold nub
    split <;> simp <;> omega

/-- The numbers of a list, each once, rising. -/
def keysM (is : List Int) : List Int := (nub is).mergeSort leI

theorem keysM_of {is ss : List Int} (hn : ss.Nodup) (hm : ∀ x, x ∈ ss ↔ x ∈ is) : ss.mergeSort leI = keysM is := by
  unfold keysM
  refine mergeSort_of_perm_i ?_
  exact (List.perm_ext_iff_of_nodup hn (nodup_nub is)).2 (fun x => by rw [hm x, mem_nub])

theorem mem_keysM {is : List Int} {x : Int} : x ∈ keysM is ↔ x ∈ is := by
  unfold keysM
  rw [(List.mergeSort_perm _ _).mem_iff, mem_nub]

structure Rw where
  lw : Int
  hg : Int
  n : Int
def encR (r : Rw) : List Value := [.int .i64 r.lw, .int .i64 r.hg, .int .i64 r.n]
def rowOf (is : List Int) (i : Int) : Rw := ⟨low i, high i, (is.count i : Nat)⟩
/-- The rows. -/
def rowsM (is : List Int) : List Rw := (keysM is).map (rowOf is)

def Rs (w : World) (P : Nat → Prop) (v : Value) (L : List Rw) : Prop := Row 3 44 w P v L.length (L.flatMap encR)

theorem Rs.app {W : World} {P : Nat → Prop} {v : Value} {L : List Rw} (h : Rs W P v L) (hP : ∀ k, W.heap.size ≤ k → P k) (hl : L.length ≤ 2000) (x : Rw) (ty : TypeId) :
    ∃ v1 w1, (Builtin.append_ #[35, 35] ty #[v, .slice (some ⟨W.heap.size, 0, none⟩) 1 1]).run Try.prog (W.alloc (.cells #[.int .i64 x.lw, .int .i64 x.hg, .int .i64 x.n] 44)) = .ok v1 w1 ∧ Rs w1 P v1 (L ++ [x]) ∧ Only (fun k => v.ownBlock = some k) W w1 := by
  have hO : Only (fun k => v.ownBlock = some k) W (W.alloc (.cells #[.int .i64 x.lw, .int .i64 x.hg, .int .i64 x.n] 44)) := (Only.refl _ W).alloc _
  have hnew := heap_alloc_new W (.cells #[.int .i64 x.lw, .int .i64 x.hg, .int .i64 x.n] 44)
  have hrow : Row 3 44 (W.alloc (.cells #[.int .i64 x.lw, .int .i64 x.hg, .int .i64 x.n] 44)) P v L.length (L.flatMap encR) := Row.keep h (fun g _ hg => heap_alloc_old W _ hg)
  have hsz : (W.alloc (.cells #[.int .i64 x.lw, .int .i64 x.hg, .int .i64 x.n] 44)).heap.size = W.heap.size + 1 := by show (W.heap.push _).size = _; simp
  generalize W.alloc (.cells #[.int .i64 x.lw, .int .i64 x.hg, .int .i64 x.n] 44) = W1 at *
  obtain ⟨v1, w1, hr, hR, ho⟩ := Row.app (ty := ty) hrow Try.underlying35 info44 (by rfl) (fun k hk => hP k (by omega)) ⟨W.heap.size, 0, none⟩ 1 1 (encR x) (by simp [encR]) (fun i u hu => by
    rw [Addr.add_lit, Nat.zero_add]
    refine cell_at hnew i ?_
    simpa [encR] using hu) (by simp [encR, Value.oneCell']) (by omega) (by omega) (by omega)
  refine ⟨v1, w1, hr, ?_, hO.trans ho⟩
  unfold Rs
  rw [List.length_append, List.length_singleton, List.flatMap_append]
  simpa using hR

theorem keys_len (is : List Int) : (keysM is).length ≤ is.length := by
  unfold keysM
  rw [List.length_mergeSort]
  exact nub_len _


theorem encR_at : ∀ (L : List Rw) (i j : Nat) (p : Rw), L[i]? = some p → j < 3 → (L.flatMap encR)[i * 3 + j]? = (encR p)[j]?
  | [], i, j, p, h, _ => by simp at h
  | q :: L, 0, j, p, h, hj => by
    simp at h
    subst h
    rw [List.flatMap_cons, List.getElem?_append_left (by simp [encR]; omega)]
    congr 1
    omega
  | q :: L, i + 1, j, p, h, hj => by
    have := encR_at L i j p (by simpa using h) hj
    rw [List.flatMap_cons, List.getElem?_append_right (by simp [encR]; omega), ← this]
    congr 1
    simp [encR]
    omega

theorem nodup_len : ∀ {l m : List Int}, l.Nodup → (∀ x ∈ l, x ∈ m) → l.length ≤ m.length
  | [], m, _, _ => Nat.zero_le _
  | x :: l, m, hn, h => by
    have hx : x ∈ m := h x (by simp)
    rw [List.nodup_cons] at hn
    have := nodup_len (m := m.erase x) hn.2 (fun y hy => (List.mem_erase_of_ne (fun (e : y = x) => hn.1 (e ▸ hy))).2 (h y (List.mem_cons_of_mem _ hy)))
    rw [List.length_erase_of_mem hx] at this
    have := List.length_pos_of_mem hx
    rw [List.length_cons]
    omega

theorem only_grown {w w' : World} {v : Value} (h : Only (fun k => v.ownBlock = some k) w w') : w.grownBy w' v.ownBlock :=
  ⟨h.os, h.tape, h.output, h.size, fun k hk hne => h.block k hk (fun e => hne e.symm)⟩

theorem rows_nil (w : World) : Calls Try.prog 24 #[.pointer none] w fun e w' => e = .returned (.slice none 0 0) ∧ w = w' := by
  go_enter Try.func24, Try.ntmps24
  go_wp2_with (go_at_call 33; refine (none_nil _).mono ?_; rintro e w' ⟨rfl, rfl⟩)
  go_ret
  exact ⟨rfl, rfl⟩

theorem Row.apart {sz sz' : Nat} {e e' : TypeId} {w : World} {P P' : Nat → Prop} {v v' : Value} {n n' : Nat} {xs xs' : List Value} (h : Row sz e w P v n xs) (h' : Row sz' e' w P' v' n' xs') (he : e ≠ e') {k : Nat} (hk : v.ownBlock = some k) : v'.ownBlock ≠ some k := by
  rcases h with ⟨rfl, _⟩ | ⟨q, o, c, cells, rfl, _, hh, _⟩
  · simp [Value.ownBlock] at hk
  · simp [Value.ownBlock] at hk
    subst hk
    exact Row.ne h' hh he

theorem sort_p {w : World} {P : Nat → Prop} {v : Value} {ss : List Int} (h : Ks w P v ss) (hl : ss.length ≤ 1000) :
    Calls Try.prog 34 #[v] w fun e w' => e = .returned (.tuple #[]) ∧ Ks w' P v (ss.mergeSort leI) ∧ Only (fun k => v.ownBlock = some k) w w' := by
  have hlen : (ss.mergeSort leI).length = ss.length := List.length_mergeSort _
  rcases h with ⟨rfl, h0, hx⟩ | ⟨q, o, c, cells, rfl, hq, r⟩
  · have hn : ss = [] := List.length_eq_zero_iff.1 h0
    subst hn
    exact (Try.slices_Sort_int_none none 0 w).mono fun e w' ⟨he, hw⟩ => by
      subst hw
      exact ⟨he, .inl ⟨rfl, by simp, by simp⟩, Only.refl _ _⟩
  · have hK : Ks w P (.slice (some ⟨q, o, none⟩) ss.length c) ss := .inr ⟨q, o, c, cells, rfl, hq, r⟩
    refine (Try.slices_Sort_int q o c ss w hK.holds (blk_lt r.1) (by omega)).mono ?_
    rintro e w' ⟨he, m, os, hw⟩
    have := Ks.sorted hK hlen hw
    rw [hlen] at this
    refine ⟨he, this.1, this.2.mono (fun k hk => by rw [hk]; rfl)⟩

theorem gate_wp {P : Program} {o : Oper} {a : Act} {w : World} {K : Act → World → Prop} {Q : Exit → Act → World → Prop} {b : Builtin} {xs : Array Operand} {ts : Array TypeId} (_ho : o.op = .call { callee := .builtin b, args := xs, argTypes := ts }) (h : o.wp P a w K Q) : o.wp P a w K Q := h

/-- What Rows gives. -/
def RowsPost (w : World) (g b : Nat) (is : List Int) (e : Ending) (w' : World) : Prop :=
  ∃ v, e = .returned v ∧ Rs w' (fun k => w.heap.size ≤ k) v (rowsM is) ∧ HS w' g b is ∧ Only (fun k => k = b) w w'

set_option maxHeartbeats 4000000 in
set_option maxRecDepth 100000 in
theorem rows_p {g b : Nat} {is : List Int} (w : World) (h : HS w g b is) (hl : is.length ≤ 1000) : Calls Try.prog 24 #[.pointer (some ⟨g, 0, none⟩)] w (RowsPost w g b is) := by
  have hgb := h.map.ne h.blk
  have hgl := blk_lt h.blk
  have hbl := h.map.lt
  have HG := Lib.hid h
  have hc0 : w.cell? ⟨g, 0, none⟩ = some (.map (some b)) := cell_at h.blk 0 rfl
  obtain ⟨D, n, hown, hnl, hcs⟩ := h.map
  have HCS := Lib.hid hcs
  have HNL := Lib.hid hnl
  have HLL := Lib.hid hl
  clear h hcs hnl hl
  go_enter Try.func24, Try.ntmps24
  go_wp2_with (first | (go_at_call 33; refine (none_p _ HG.out).mono ?_; rintro e w' ⟨rfl, rfl⟩) | (at_range; refine wpList_range_own _ rfl _ 51 rfl 3 3 law Try.underlying51 _ b n D rfl hown ?_; intro w0 hrg0 hg0 hs0))
  go_frame
  have HO0 : Hid (Only (fun k => k = b) w w0) := Lib.hid ((Only.refl _ w).grown hg0 (by simp))
  have HC0 : Hid (CollectedI D (has D) []) := Lib.hid (CollectedI.start D)
  clear hg0 hs0 hc0 hown
  go_loopw [3, 4] (fun v3 _ wr => ∃ (ss : List Int) (left : Lit → Bool) (cnt : Nat), wr.ranges Try.prog 3 (plainElem Try.prog 3) b w.heap.size n D left cnt ∧ Hid (CollectedI D left ss) ∧ Hid (Ks wr (fun k => w.heap.size < k) v3 ss) ∧ Hid (Only (fun k => k = b) w wr) ∧ Hid (∀ x ∈ ss, (Lit.int .i64 x).wf = true)) (fun _ _ wr => wr.rangeLeft b w.heap.size)
  case atStart => exact ⟨[], _, _, hrg0, HC0, Lib.hid (Row.nil _ _ _ _), HO0, Lib.hid (by simp)⟩
  case round =>
    obtain ⟨ss, left, cnt, hrg, HC, HK, HO, HW⟩ := hrel
    go_wp2_with (first | (at_next; refine wpList_next_ranges_ii _ rfl _ rfl 3 3 .i64 .i64 law Try.underlying3 Try.underlying3 b w.heap.size n D _ _ rfl hrg ?_ ?_))
    · intro _ hl0
      have hkeys : ss.mergeSort leI = keysM is := keysM_of HC.out.1 (fun x => by
        constructor
        · intro hx
          exact (HCS.out.has_ x (HW.out x hx)).1 ((HC.out.2 x).1 hx).1
        · intro hx
          have := HCS.out.bd x hx
          exact (HC.out.2 x).2 ⟨(HCS.out.has_ x (wf64 (by omega) (by omega))).2 hx, hl0 _⟩)
      have hsub : ss.length ≤ 1000 := by
        have h1 : ss.length ≤ (nub is).length := nodup_len HC.out.1 (fun y hy => mem_nub.2 ((HCS.out.has_ y (HW.out y hy)).1 ((HC.out.2 y).1 hy).1))
        have h2 := nub_len is
        have h3 := HLL.out
        omega
      have HSO := Lib.hid (sort_p HK.out hsub)
      rw [hkeys] at HSO
      have hkl : (keysM is).length = ss.length := by rw [← hkeys]; exact List.length_mergeSort _
      have HK0 : Hid (Ks wr (fun k => w.heap.size < k) u3 ss) := HK
      have HH0 : Hid (HS wr g b is) := Lib.hid ⟨HO.out.blk HG.out.blk hgb, D, n, hrg.owns, HNL.out, HCS.out⟩
      obtain ⟨A, cp, hu, _⟩ := HK.out.form
      obtain ⟨N, hN⟩ : ∃ N, N = (keysM is).length := ⟨_, rfl⟩
      rw [← hkl, ← hN] at hu
      subst hu
      have HNN := Lib.hid hN
      have hN1 : N ≤ 1000 := by omega
      clear hkeys hsub hkl hN hrg
      go_wp2_with (go_at_call 34; refine HSO.out.mono ?_; rintro e w2 ⟨rfl, hk2, ho2⟩; have HK2 := Lib.hid hk2; have HO2 := Lib.hid (HO.out.then_ ho2 (fun k hk => .inr (by have := (Row.own HK0.out hk).1; omega))); have HH2 := Lib.hid (HH0.out.only ho2 (fun e => Row.ne HK0.out HH0.out.blk (by decide) e) (fun e => by obtain ⟨D', n', ⟨es, ck, hb', _⟩, _⟩ := HH0.out.map; exact Row.neMap HK0.out hb' e)); clear hk2 ho2)
      clear HO HC HK HK0 HH0 HSO hl0 HW
      go_loopw [5, 27, 7] (fun v5 v27 _ wr' => ∃ j : Nat, v27 = .int .i64 (j : Int) ∧ j ≤ N ∧ Hid (Ks wr' (fun k => w.heap.size < k) (.slice A N cp) (keysM is)) ∧ Hid (Rs wr' (fun k => w.heap.size < k) v5 (((keysM is).take j).map (rowOf is))) ∧ Hid (HS wr' g b is) ∧ Hid (Only (fun k => k = b) w wr')) (fun _ v27 _ _ => N - (RowKit.intOf v27).toNat)
      case atStart => exact ⟨0, rfl, Nat.zero_le _, HK2, Lib.hid (Row.nil _ _ _ _), HH2, HO2⟩
      case round =>
        clear HK2 HO2 HH2
        obtain ⟨j, rfl, hjN, HK, HR, HH, HO⟩ := hrel
        have hgo : j < N ∨ j = N := by omega
        rcases hgo with hlt | rfl
        · have hlt' : (j : Int) < (N : Int) := by omega
          obtain ⟨x, hx⟩ : ∃ x, (keysM is)[j]? = some x := ⟨(keysM is)[j]'(by have := HNN.out; omega), List.getElem?_eq_getElem _⟩
          have hKs : Row 1 3 wr (fun k => w.heap.size < k) (.slice A N cp) N ((keysM is).map (Value.int .i64)) := by have := HK.out; unfold Ks at this; rw [← HNN.out] at this; exact this
          obtain ⟨q, o, c', he, hcc⟩ := Row.some_ hKs (by omega)
          injection he with e1 e2 e3
          subst e1 e3
          have hxc : wr.cell? ⟨q, o + j, none⟩ = some (.int .i64 x) := Row.cell hKs j (by rw [List.getElem?_map, hx]; rfl)
          have hxm : x ∈ is := mem_keysM.1 (List.mem_of_getElem? hx)
          have hxb := HCS.out.bd x hxm
          have hwx : (Lit.int .i64 x).wf = true := wf64 (by omega) (by omega)
          obtain ⟨l, hl⟩ : ∃ l, l = low x := ⟨_, rfl⟩
          obtain ⟨hg, hhg⟩ : ∃ l, l = high x := ⟨_, rfl⟩
          obtain ⟨ct, hct⟩ : ∃ l, l = is.count x := ⟨_, rfl⟩
          have HLO : Hid (∀ w, Calls Try.prog 10 #[.int .i64 x] w fun e w' => e = .returned (.int .i64 l) ∧ w = w') := Lib.hid (fun w => by rw [hl]; exact low_p x w)
          have HHI : Hid (∀ w, Calls Try.prog 12 #[.int .i64 x] w fun e w' => e = .returned (.int .i64 hg) ∧ w = w') := Lib.hid (fun w => by rw [hhg]; exact high_p x w)
          have hlk : (Instr.lookup 51 (.map (some b)) (.int .i64 x) false).run Try.prog wr = .ok (.int .i64 (ct : Int)) wr := by rw [hct]; exact HH.out.map.look x hwx 0
          have hlk1 : (Instr.lookup 51 (.map (some b)) (.int .i64 x) false).run Try.prog wr.drew = .ok (.int .i64 (ct : Int)) wr.drew := by rw [hct]; exact HH.out.map.look x hwx 1
          have hc0 : wr.cell? ⟨g, 0, none⟩ = some (.map (some b)) := cell_at HH.out.blk 0 rfl
          have hRow : Hid ((((keysM is).take (j + 1)).map (rowOf is)) = ((keysM is).take j).map (rowOf is) ++ [(⟨l, hg, (ct : Int)⟩ : Rw)]) := Lib.hid (by
            rw [List.take_add_one, hx, List.map_append, hl, hhg, hct]
            rfl)
          have hRs : Rs wr.drew (fun k => w.heap.size < k) u5 (((keysM is).take j).map (rowOf is)) := HR.out
          have HSS : Hid (∀ w', HS w' g b is → w'.cell? ⟨g, 0, none⟩ = some (.map (some b)) ∧ (Instr.lookup 51 (.map (some b)) (.int .i64 x) false).run Try.prog w' = .ok (.int .i64 (ct : Int)) w') := Lib.hid (fun w' hh => ⟨cell_at hh.blk 0 rfl, by rw [hct]; exact hh.map.look x hwx 0⟩)
          have HHd : Hid (HS wr.drew g b is) := Lib.hid (HH.out.only ((Only.refl (fun _ => False) wr).drew) (fun h => h) (fun h => h))
          have HHa : Hid (HS (wr.alloc (.cells #[.int .i64 l, .int .i64 hg, .int .i64 (ct : Int)] 44)).drew g b is) := Lib.hid (HH.out.only (((Only.refl (fun _ => False) wr).alloc _).drew) (fun h => h) (fun h => h))
          have hgw : w.heap.size < wr.heap.size := by have := (Row.own HK.out (k := q) (by simp [Value.ownBlock])); omega
          obtain ⟨v2, w2, hr2, hR2, hO2⟩ := Rs.app (W := wr.drew) hRs (fun k hk => by have h3 : wr.heap.size ≤ k := hk; omega) (by rw [List.length_map, List.length_take]; omega) ⟨l, hg, (ct : Int)⟩ 35
          have HRR : Hid ((Builtin.append_ #[35, 35] 35 #[u5, .slice (some ⟨wr.heap.size, 0, none⟩) 1 1]).run Try.prog (wr.alloc (.cells #[.int .i64 l, .int .i64 hg, .int .i64 (ct : Int)] 44)).drew = .ok v2 w2) := Lib.hid hr2
          have HO1 : Hid (Only (fun k => u5.ownBlock = some k) wr w2) := Lib.hid ((Only.refl _ wr).drew.trans hO2)
          have HK2 : Hid (Ks w2 (fun k => w.heap.size < k) (.slice (some ⟨q, o, none⟩) N cp) (keysM is)) := Lib.hid (Row.only HK.out HO1.out (fun k hk => Row.apart HK.out HR.out (by decide) hk))
          have HH2 := Lib.hid (HH.out.only HO1.out (fun e => Row.ne HR.out HH.out.blk (by decide) e) (fun e => by obtain ⟨D', n', ⟨es, ck, hb', _⟩, _⟩ := HH.out.map; exact Row.neMap HR.out hb' e))
          have HR2 : Hid (Rs w2 (fun k => w.heap.size < k) v2 (((keysM is).take (j + 1)).map (rowOf is))) := Lib.hid (by rw [hRow.out]; exact hR2)
          have HO2 : Hid (Only (fun k => k = b) w w2) := Lib.hid (HO.out.then_ HO1.out (fun k hk => .inr (by have := (Row.own HR.out hk).1; omega)))
          clear hr2 hR2 hO2 hRs hx hKs hl hhg hct hxm hxb hwx hRow hcc
          go_wp2
          go_region_held_law (fun w' => w'.cell? ⟨g, 0, none⟩ = some (.map (some b)) ∧ (Instr.lookup 51 (.map (some b)) (.int .i64 x) false).run Try.prog w' = .ok (.int .i64 (ct : Int)) w') (first | exact HSS.out _ HH.out | exact HSS.out _ HHd.out | exact HSS.out _ HHa.out | exact HSS.out _ HH2.out) (first | (go_at_call 10; refine (HLO.out _).mono ?_; rintro e w' ⟨rfl, rfl⟩) | (go_at_call 12; refine (HHI.out _).mono ?_; rintro e w' ⟨rfl, rfl⟩) | (rw [if_pos (by rfl)]; (with_reducible refine gate_wp (b := .append) (xs := #[.tmp 31, .tmp 43]) rfl ?_); refine Go.Lib.wp_append_run_sl _ (.tmp 31) (.tmp 43) 35 rfl _ _ rfl rfl HRR.out ?_))
          all_goals
            go_wp2
            go_roundw
            case rel => exact ⟨j + 1, by go_num, by omega, HK2, HR2, HH2, HO2⟩
            case measure => simp [RowKit.intOf]; omega
        · have hge : ¬ (j : Int) < j := by omega
          go_wp2
          go_ret
          have hR' : Rs wr (fun k => w.heap.size < k) u5 (rowsM is) := by
            have := HR.out
            rw [HNN.out, List.take_length] at this
            exact this
          exact ⟨_, rfl, Row.to hR' (fun k hk => Nat.le_of_lt (Row.own hR' hk).1), HH.out, HO.out⟩
    · intro x c w1 cnt1 hwx hwc hlx hat hrg1 hlt hg1 hs1 hen
      have hrl := hrg1.lt
      have HK1 : Hid (Ks w1 (fun k => w.heap.size < k) u3 ss) := Lib.hid (Row.keep HK.out (fun q hq hlt => hg1.block q hlt (fun e => by have h2 := (Row.own HK.out hq).1; injection e with e; omega)))
      have HO1 : Hid (Only (fun k => k = b) w w1) := Lib.hid (HO.out.grown hg1 (fun k hk => by simp at hk; omega))
      have hmem : x ∈ is := (HCS.out.has_ x hwx).1 (has_true_of_atKey hat)
      have hsub : ss.length ≤ 1000 := by
        have h1 : ss.length ≤ (nub is).length := nodup_len HC.out.1 (fun y hy => mem_nub.2 ((HCS.out.has_ y (HW.out y hy)).1 ((HC.out.2 y).1 hy).1))
        have h2 := nub_len is
        have h3 := HLL.out
        omega
      have HC1 := Lib.hid (HC.out.step hlx hat)
      obtain ⟨v2, w2, hr2, hK2, hO2⟩ := Ks.app (W := w1) HK1.out (fun k hk => by omega) (by omega) x 25
      have HK2 := Lib.hid hK2
      have HRR := Lib.hid hr2
      have HRG : Hid (w2.ranges Try.prog 3 (plainElem Try.prog 3) b w.heap.size n D (fun z => left z && !z.sameKey (.int .i64 x)) cnt1) := Lib.hid (hrg1.kept (only_grown hO2) (fun e => by have := (Row.own HK1.out e.symm).1; omega) (fun e => by have := (Row.own HK1.out e.symm).1; omega))
      have HO2 : Hid (Only (fun k => k = b) w w2) := Lib.hid (HO1.out.then_ hO2 (fun k hk => .inr (by have := (Row.own HK1.out hk).1; omega)))
      have HLT := Lib.hid hlt
      have HL0 := Lib.hid hrg.left_eq
      have HWX := Lib.hid hwx
      clear hg1 hs1 hK2 hO2 hmem hsub hat hlx hrg1 hlt hrg hrl hwx hr2
      go_wp2_with ((with_reducible refine gate_builtin (b := .append) (xs := #[.tmp 19, .tmp 21]) rfl ?_); at_builtin; go_loud (refine Go.Lib.wpList_append_run_sl _ rfl (.tmp 19) (.tmp 21) 25 rfl _ _ rfl rfl HRR.out ?_))
      go_roundw
      case rel => exact ⟨ss ++ [x], _, cnt1, HRG.out, HC1, HK2, HO2, Lib.hid (fun y hy => by
        rcases List.mem_append.1 hy with h | h
        · exact HW.out y h
        · rw [List.mem_singleton.1 h]; exact HWX.out)⟩
      case measure => rw [HRG.out.left_eq, HL0.out]; exact HLT.out

end Go.Proofs.Ytognnjhphnhbfaa.Hi

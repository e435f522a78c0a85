/- Ring: rows of whole numbers; slices.Sorted(slices.Values(s)). -/
import Derived.Test.YtbjepnneklnenaaRgJ
set_option linter.unusedVariables false
set_option linter.unusedSimpArgs false
namespace Go.Proofs.Ytbjepnneklnenaa.Rg
open Go.Sort (grow heap_grow_old putRow mapBlock onCells)
open Go.RowKit Go.Maps Go.Proofs.Ytbjepnneklnenaa.Base Go.Proofs.Ytbjepnneklnenaa.Rws Go.Proofs.YtbjepnneklnenaaW.PrintWords Go.Proofs.YtbjepnneklnenaaW.PrintMore

/-- Whole numbers of the call's own. -/
def Ks (w : World) (P : Nat → Prop) (v : Value) (L : List Int) : Prop := Row 1 3 w P v L.length (L.map (Value.int .i64))

theorem Ks.app {W : World} {P : Nat → Prop} {v : Value} {L : List Int} (h : Ks W P v L) (hP : ∀ k, W.heap.size ≤ k → P k) (hl : L.length ≤ 2000) (x : Int) (ty : TypeId) :
    ∃ v1 w1, (Builtin.append_ #[22, 22] ty #[v, .slice (some ⟨W.heap.size, 0, none⟩) 1 1]).run Try.prog (W.alloc (.cells #[.int .i64 x] 3)) = .ok v1 w1 ∧ Ks w1 P v1 (L ++ [x]) ∧ Only (fun k => v.ownBlock = some k) W w1 := by
  have hO : Only (fun k => v.ownBlock = some k) W (W.alloc (.cells #[.int .i64 x] 3)) := (Only.refl _ W).alloc _
  have hnew := heap_alloc_new W (.cells #[.int .i64 x] 3)
  have hrow : Row 1 3 (W.alloc (.cells #[.int .i64 x] 3)) P v L.length (L.map (Value.int .i64)) := Row.keep h (fun g _ hg => by exact heap_alloc_old W _ g hg)
  have hsz : (W.alloc (.cells #[.int .i64 x] 3)).heap.size = W.heap.size + 1 := by show (W.heap.push _).size = _; simp
  generalize W.alloc (.cells #[.int .i64 x] 3) = W1 at *
  obtain ⟨v1, w1, hr, hR, ho⟩ := Row.app (ty := ty) hrow Try.underlying22 inf3 (by rfl) (fun k hk => hP k (by omega)) ⟨W.heap.size, 0, none⟩ 1 1 [.int .i64 x] (by simp) (fun i u hu => by
    rw [Addr.add_lit, Nat.zero_add]
    refine cell_at hnew i ?_
    simpa using hu) (by simp [Value.oneCell']) (by omega) (by omega) (by omega)
  refine ⟨v1, w1, hr, ?_, hO.trans ho⟩
  unfold Ks
  rw [List.length_append, List.length_singleton, List.map_append]
  simpa using hR

theorem Ks.ne {w : World} {P : Nat → Prop} {v : Value} {L : List Int} (h : Ks w P v L) {g : Nat} {cs : Array Value} {t : TypeId} (hg : w.heap[g]? = some (.cells cs t (0, 0))) (ht : t ≠ 3 := by decide) : ¬ v.ownBlock = some g := Row.ne h hg ht

/-- A row behind a sort. -/
theorem Ks.sorted {w w' : World} {P : Nat → Prop} {q o c m : Nat} {os : Array Obj} {L d : List Int} (h : Ks w P (.slice (some ⟨q, o, none⟩) L.length c) L) (hd : d.length = L.length)
    (hw : w' = grow (putRow (Value.int .i64) (Sort.ahead w m) q o d.toArray) os) : Ks w' P (.slice (some ⟨q, o, none⟩) d.length c) d ∧ Only (fun k => k = q) w w' := by
  rcases h with ⟨h, _⟩ | ⟨g', o', c', cells, hv, hg, hh, h1, h2, h3, h4⟩
  · cases h
  · injection hv with e1 e2 e3
    injection e1 with e1
    injection e1 with e4 e5
    subst e3 e4 e5
    have hlt := blk_lt hh
    have hblk : w'.heap[q]? = some (.cells (Sort.putCells (Value.int .i64) o d.toArray cells) 3 (0, 0)) := by
      rw [hw, heap_grow_old _ _ (by simpa using hlt)]
      simp [putRow, mapBlock, Sort.ahead, Array.getElem?_modify, hh, onCells]
    have hsize : (Sort.putCells (Value.int .i64) o d.toArray cells).size = cells.size := by simp [Sort.putCells]
    refine ⟨.inr ⟨q, o, c, _, rfl, hg, hblk, ⟨by omega, h1.2⟩, by rw [hsize]; exact h2, by simp, fun j u hu => ?_⟩, ?_⟩
    · rw [List.getElem?_map] at hu
      obtain ⟨x, hx, rfl⟩ := Option.map_eq_some_iff.1 hu
      have hj : j < d.length := (List.getElem?_eq_some_iff.1 hx).1
      have hoj : o + j < cells.size := by omega
      have hdj : d.toArray[j]! = x := by
        have : d[j]? = some x := hx
        simp [this]
      simp only [Sort.putCells, Array.getElem?_mapIdx, Array.getElem?_eq_getElem hoj, Option.map_some]
      rw [if_pos ⟨by omega, by simp; omega⟩, Nat.add_sub_cancel_left, hdj]
    · rw [hw]
      refine ⟨rfl, rfl, rfl, by simp, fun k hk hne => ?_⟩
      rw [heap_grow_old _ _ (by simpa using hk)]
      simp [putRow, mapBlock, Sort.ahead, Array.getElem?_modify]
      intro e
      exact absurd e.symm hne

theorem Ks.holds {w : World} {P : Nat → Prop} {q o c : Nat} {L : List Int} (h : Ks w P (.slice (some ⟨q, o, none⟩) L.length c) L) : Sort.Holds (Value.int .i64) w q o L.toArray := by
  intro j hj
  have hj' : j < L.length := by simpa using hj
  refine ⟨?_, Row.frozen h j⟩
  refine Row.cell h j ?_
  rw [List.getElem?_map, List.getElem?_eq_getElem hj']
  simp [hj']


theorem sort_p {w : World} {P : Nat → Prop} {v : Value} {ss : List Int} (h : Ks w P v ss) (hl : ss.length ≤ 1000) :
    Calls Try.prog 31 #[v] w fun e w' => e = .returned (.tuple #[]) ∧ Ks w' P v (ss.mergeSort leI) ∧ Only (fun k => v.ownBlock = some k) w w' := by
  have hlen : (ss.mergeSort leI).length = ss.length := List.length_mergeSort _
  rcases h with ⟨rfl, h0, hx⟩ | ⟨q, o, c, cells, rfl, hq, r⟩
  · have hn : ss = [] := List.length_eq_zero_iff.1 h0
    subst hn
    exact (Try.slices_Sort_int_none none 0 w).mono fun e w' ⟨he, hw⟩ => by
      subst hw
      exact ⟨he, .inl ⟨rfl, by simp, by simp⟩, Only.refl _ _⟩
  · have hK : Ks w P (.slice (some ⟨q, o, none⟩) ss.length c) ss := .inr ⟨q, o, c, cells, rfl, hq, r⟩
    refine (Try.slices_Sort_int q o c ss w hK.holds (blk_lt r.1) (by omega)).mono ?_
    rintro e w' ⟨he, m, os, hw⟩
    have := Ks.sorted hK hlen hw
    rw [hlen] at this
    refine ⟨he, this.1, this.2.mono (fun k hk => by rw [hk]; rfl)⟩


theorem Ks.of_own {w : World} {base : Nat} {v : Value} {L : List Int} (h : w.ownsRow base 3 1 v L.length (L.map eI)) : Ks w (fun k => base ≤ k) v L := by
  obtain ⟨hx, ⟨rfl, h0⟩ | ⟨g, cap, cur, rfl, hb, hg, h1, h2, h3, h4⟩⟩ := h
  · have hn : L = [] := List.length_eq_zero_iff.1 h0
    subst hn
    exact Row.nil _ _ _ _
  · refine .inr ⟨g, 0, cap, cur, rfl, hb, hg, ⟨h1, h2⟩, by omega, by simp, fun j u hu => ?_⟩
    have hj := (List.getElem?_eq_some_iff.1 hu).1
    rw [List.length_map] at hj
    have h5 : (cur.toList.take (L.length * 1))[j]? = some u := by rw [h4]; exact hu
    rw [List.getElem?_take] at h5
    split at h5
    · rw [Nat.zero_add, ← Array.getElem?_toList]
      exact h5
    · cases h5

/-- Sorted. -/
def srt (l : List Int) : List Int := l.mergeSort leI

set_option maxHeartbeats 2000000 in
/-- slices.Sorted(slices.Values(s)). -/
theorem sorted_p (Bs cap : Nat) (A : Option Addr) (zs : List Int) (hlen : zs.length ≤ 1000) (w : World) (hBs : w.cell? ⟨Bs, 0, none⟩ = some (.slice A zs.length cap)) (hc : Rd w A zs) :
    Calls Try.prog 17 #[.func (.func 32) #[] #[.pointer (some ⟨Bs, 0, none⟩)]] w fun e w' => ∃ v, e = .returned v ∧ Ks w' (fun k => w.heap.size ≤ k) v (srt zs) ∧ Only (fun _ => False) w w' := by
  have HC := Lib.hid (collect_p Bs cap A zs hlen w hBs hc)
  have HL := Lib.hid hlen
  clear hBs hc hlen
  go_enter Try.func17, Try.ntmps17
  go_wp2_with (go_at_call 30; refine HC.out.mono ?_; rintro e w1 ⟨v, rfl, hr, _, hb⟩; have HK := Lib.hid (Ks.of_own hr); have HO1 : Hid (Only (fun _ => False) w w1) := Lib.hid (Only.of_below hb); clear hr hb)
  have HS := Lib.hid (sort_p HK.out HL.out)
  go_wp2_with (go_at_call 31; refine HS.out.mono ?_; rintro e w2 ⟨rfl, hk2, ho2⟩; have HK2 := Lib.hid hk2; have HO2 := Lib.hid ho2; clear hk2 ho2)
  go_ret
  exact ⟨_, rfl, HK2.out, HO1.out.then_ HO2.out (fun q hq => .inr (Row.own HK.out hq).1)⟩
end Go.Proofs.Ytbjepnneklnenaa.Rg

/- Alarm: Clear. -/
import Derived.Test.YtmkcckkjkfmheaaAa
set_option linter.unusedVariables false
set_option linter.unusedSimpArgs false
set_option maxRecDepth 100000
namespace Go.Proofs.Ytmkcckkjkfmheaa.Al
open Go.RowKit Go.Maps Go.Proofs.Ytmkcckkjkfmheaa.Base Go.Proofs.Ytmkcckkjkfmheaa.Rws Go.Proofs.Ytmkcckkjkfmheaa.Wh Go.Proofs.YtmkcckkjkfmheaaW.PrintWords Go.Proofs.YtmkcckkjkfmheaaW.PrintMore
attribute [local go_sem] max2_mx min2_mn max_two min_two max_three min_three max_four min_four

theorem one_h {A : List En} (hh : (A.map En.h).Nodup) {x e : En} (hx : x ∈ A) (he : e ∈ A) (h : x.h = e.h) : x = e := by
  have := one_key (L := A.map (fun e => (e.h, e))) (by rw [List.map_map]; exact hh) (p := (x.h, x)) (q := (e.h, e)) (List.mem_map.2 ⟨x, hx, rfl⟩) (List.mem_map.2 ⟨e, he, rfl⟩) h
  exact congrArg Prod.snd this
theorem one_n {A : List En} (hh : (A.map En.n).Nodup) {x e : En} (hx : x ∈ A) (he : e ∈ A) (h : x.n = e.n) : x = e := by
  have := one_key (L := A.map (fun e => (e.n, e))) (by rw [List.map_map]; exact hh) (p := (x.n, x)) (q := (e.n, e)) (List.mem_map.2 ⟨x, hx, rfl⟩) (List.mem_map.2 ⟨e, he, rfl⟩) h
  exact congrArg Prod.snd this

theorem hand_some {A : List En} (hn : (A.map En.n).Nodup) {e : En} (he : e ∈ A) : handOf A e.n = (e.h, true) := by unfold handOf; rw [find_some hn he]
theorem hand_none {A : List En} {k : K5} (h : ∀ e ∈ A, e.n ≠ k) : handOf A k = (0, false) := by unfold handOf; rw [find_none h]

def ClearPost (w : World) (p : Nat) (F : Nat → Prop) (G n last : Int) (A' : List En) (w' : World) : Prop := ∃ F', AH w' p F' G n last A' ∧ (∀ i, F' i → F i ∨ w.heap.size ≤ i) ∧ Only F w w'

set_option maxHeartbeats 4000000 in
theorem clear_a {w : World} {p : Nat} {F : Nat → Prop} {G n last : Int} {A : List En} (h : AH w p F G n last A) (k : K5) (hk : k.wf) : Calls Try.prog 23 #[.pointer (some ⟨p, 0, none⟩), k.v] w fun e w' => e = .returned (.bool (handOf A k).2) ∧ ClearPost w p F G n last (A.filter (fun x => decide (x.n ≠ k))) w' := by
  obtain ⟨gw, bh, bn, bt, FW, hm, hw, hf, hF⟩ := h
  have hnd := hm.nodup
  obtain ⟨w1, hw1⟩ : ∃ w1, w1 = w.alloc (boxN k) := ⟨_, rfl⟩
  have ho1 : Only (fun _ => False) w w1 := by rw [hw1]; exact (Only.refl _ w).alloc _
  have hm1 := (hm.only ho1 (fun h => h) (fun h => h) (fun h => h) (fun h => h))
  have hwh1 := hw.only ho1 (fun _ _ h => h)
  obtain ⟨N, hN⟩ : ∃ N, N = w.heap.size := ⟨_, rfl⟩
  have hb : w1.heap[N]? = some (boxN k) := by rw [hw1, hN]; exact heap_alloc_new w _
  have hod : Only (fun _ => False) w1 w1.drew := (Only.refl (fun _ => False) w1).drew
  have hmd := hm1.only hod (fun h => h) (fun h => h) (fun h => h) (fun h => h)
  have hl := hmd.look_h k hk
  have x2 : w1.cell? ⟨p, 2, none⟩ = some (.map (some bh)) := hm1.c2
  have x0 : w1.cell? ⟨p, 0, none⟩ = some (.pointer (some ⟨gw, 0, none⟩)) := hm1.c0
  have y0 : w1.cell? ⟨N, 0, none⟩ = some (.int .i64 k.a) := cell_at hb 0 rfl
  have y1 : w1.cell? ⟨N, 1, none⟩ = some (.int .i64 k.b) := cell_at hb 1 rfl
  have y2 : w1.cell? ⟨N, 2, none⟩ = some (.int .i64 k.c) := cell_at hb 2 rfl
  have y3 : w1.cell? ⟨N, 3, none⟩ = some (.int .i64 k.d) := cell_at hb 3 rfl
  have y4 : w1.cell? ⟨N, 4, none⟩ = some (.int .i64 k.e) := cell_at hb 4 rfl
  have HM1 := Lib.hid hm1
  have HMD := Lib.hid hmd
  have HWD := Lib.hid (hwh1.only hod (fun _ _ h => h))
  have HF := Lib.hid hf
  have HFF := Lib.hid hF
  have HO1 := Lib.hid ho1
  have HBX := Lib.hid hb
  have HNN : Hid (w.heap.size = N) := Lib.hid hN.symm
  have HMN := Lib.hid hm
  have HNF : Hid (∀ i, FW i → i < N) := Lib.hid (fun i hi => by rw [hN]; exact hw.flt i hi)
  have HPN : Hid (p < N ∧ bh < N ∧ bn < N ∧ bt < N) := Lib.hid (by rw [hN]; exact ⟨blk_lt hm.blk, hm.mh.lt, hm.mn.lt, hm.mt.lt⟩)
  have HKW := Lib.hid hk
  by_cases hin : ∃ e ∈ A, e.n = k
  · obtain ⟨e, he, rfl⟩ := hin
    rw [hand_some hnd.1 he] at hl ⊢
    simp only at hl ⊢
    have hcut : A.filter (fun x => decide (x.n ≠ e.n)) = A.filter (fun x => decide (x.h ≠ e.h)) := List.filter_congr fun x hx => by
      have : x.n = e.n ↔ x.h = e.h := ⟨fun h => by rw [one_n hnd.1 hx he h], fun h => by rw [one_h hnd.2 hx he h]⟩
      simp only [ne_eq, this]
    have hcutw : (A.map (En.sh G)).filter (fun q => decide (q.2 ≠ e.h)) = (A.filter (fun x => decide (x.h ≠ e.h))).map (En.sh G) := by rw [List.filter_map]; rfl
    rw [hcut]
    have HCW := Lib.hid hcutw
    have HC := Lib.hid (wh_cancel e.h (hm.wf e he).2.1 HWD.out)
    have HFG : Hid (∀ W, MS W p gw bh bn bt G A → Calls Try.prog 30 #[.pointer (some ⟨p, 0, none⟩), e.n.v, .int .i64 e.h] W fun en w' => en = .returned (.tuple #[]) ∧ MS w' p gw bh bn bt G (A.filter (fun x => decide (x.h ≠ e.h))) ∧ Only (fun i => i = bh ∨ i = bn ∨ i = bt) W w') := Lib.hid (fun W hW => forget_m hW he)
    obtain ⟨A', hA'⟩ : ∃ A', A' = A.filter (fun x => decide (x.h ≠ e.h)) := ⟨_, rfl⟩
    rw [← hA'] at HCW HFG ⊢
    obtain ⟨k, t, hh⟩ := e
    obtain ⟨a, b', c, d, e⟩ := k
    unfold K5.v at hl HFG ⊢
    unfold boxN at hw1
    simp only at hl y0 y1 y2 y3 y4 hw1 HFG ⊢
    clear hm hw hf hF hnd ho1 hm1 hwh1 hb hod hmd hcut hcutw hA' he hk
    go_enter Try.func23, Try.ntmps23
    go_wp2_with fail
    rw [← hw1, ← hN]
    clear hw1 hN
    go_wp2_with (go_at_call 25; refine (none_a HM1.out).mono ?_; rintro e w' ⟨rfl, rfl⟩)
    go_region
    go_upto_region 6 with (go_at_call 42; refine HC.out.mono ?_; rintro e w2 ⟨rfl, FW', hwc, hfc, hoc⟩)
    have hm2 := HMD.out.only hoc HF.out.1 HF.out.2.1 HF.out.2.2.1 HF.out.2.2.2
    have hb2 : w2.heap[N]? = some (boxN ⟨a, b', c, d, e⟩) := hoc.blk (w := w1.drew) HBX.out (fun h => by have := HNF.out N h; omega)
    have z0 : w2.cell? ⟨N, 0, none⟩ = some (.int .i64 a) := cell_at hb2 0 rfl
    have z1 : w2.cell? ⟨N, 1, none⟩ = some (.int .i64 b') := cell_at hb2 1 rfl
    have z2 : w2.cell? ⟨N, 2, none⟩ = some (.int .i64 c) := cell_at hb2 2 rfl
    have z3 : w2.cell? ⟨N, 3, none⟩ = some (.int .i64 d) := cell_at hb2 3 rfl
    have z4 : w2.cell? ⟨N, 4, none⟩ = some (.int .i64 e) := cell_at hb2 4 rfl
    have HM2 := Lib.hid hm2
    have HWC := Lib.hid hwc
    have HFC := Lib.hid hfc
    have HOC := Lib.hid hoc
    clear hm2 hwc hfc hoc hb2 x0 x2 hl y0 y1 y2 y3 y4
    go_wp2_with (go_at_call 30; refine (HFG.out _ HM2.out).mono ?_; rintro e w3 ⟨rfl, hm3, ho3⟩; have HM3 := Lib.hid hm3; have HO3 := Lib.hid ho3; clear hm3 ho3)
    go_ret
    have hPN := HPN.out
    have hFC := HFC.out
    have hsz : N ≤ w1.drew.heap.size := by rw [← HNN.out]; exact HO1.out.size
    have hfr : ∀ i, FW' i → FW i ∨ N ≤ i := fun i hi => (hFC i hi).imp id (fun h => Nat.le_trans hsz h)
    have hn : ∀ i, i < N → ¬ FW i → ¬ FW' i := fun i h1 h2 h3 => (hfr i h3).elim h2 (fun h => by omega)
    refine ⟨rfl, fun i => i = p ∨ i = bh ∨ i = bn ∨ i = bt ∨ FW' i, ⟨gw, bh, bn, bt, FW', HM3.out, ?_, ⟨hn _ hPN.1 HF.out.1, hn _ hPN.2.1 HF.out.2.1, hn _ hPN.2.2.1 HF.out.2.2.1, hn _ hPN.2.2.2 HF.out.2.2.2⟩, fun i => Iff.rfl⟩, fun i hi => ?_, ?_⟩
    · rw [← HCW.out]
      refine HWC.out.only HO3.out (fun i hi h => ?_)
      rcases h with rfl | rfl | rfl
      · exact hn _ hPN.2.1 HF.out.2.1 hi
      · exact hn _ hPN.2.2.1 HF.out.2.2.1 hi
      · exact hn _ hPN.2.2.2 HF.out.2.2.2 hi
    · rw [HNN.out, HFF.out]
      rcases hi with h | h | h | h | h
      · exact .inl (.inl h)
      · exact .inl (.inr (.inl h))
      · exact .inl (.inr (.inr (.inl h)))
      · exact .inl (.inr (.inr (.inr (.inl h))))
      · exact (hfr i h).imp (fun h => .inr (.inr (.inr (.inr h)))) id
    · refine (HO1.out.mono (fun _ h => h.elim)).trans ((Only.mono (w := w1) (w1 := w2) (S := FW) (by exact (Only.refl FW w1).drew.trans HOC.out) (fun i h => (HFF.out i).2 (.inr (.inr (.inr (.inr h)))))).trans (HO3.out.mono (fun i h => (HFF.out i).2 ?_)))
      rcases h with h | h | h
      · exact .inr (.inl h)
      · exact .inr (.inr (.inl h))
      · exact .inr (.inr (.inr (.inl h)))
  · have hno : ∀ e ∈ A, e.n ≠ k := fun e he h => hin ⟨e, he, h⟩
    rw [hand_none hno] at hl ⊢
    simp only at hl ⊢
    have hall : A.filter (fun x => decide (x.n ≠ k)) = A := List.filter_eq_self.2 (fun e he => decide_eq_true (p := e.n ≠ k) (hno e he))
    rw [hall]
    obtain ⟨a, b', c, d, e⟩ := k
    unfold K5.v at hl ⊢
    unfold boxN at hw1
    simp only at hl y0 y1 y2 y3 y4 hw1 ⊢
    clear hm hw hf hF hnd ho1 hm1 hwh1 hb hod hmd hk hno hall hin
    go_enter Try.func23, Try.ntmps23
    go_wp2_with fail
    rw [← hw1, ← hN]
    clear hw1 hN
    go_wp2_with (go_at_call 25; refine (none_a HM1.out).mono ?_; rintro e w' ⟨rfl, rfl⟩)
    go_region
    go_wp2
    go_ret
    refine ⟨rfl, F, ⟨gw, bh, bn, bt, FW, HMD.out, HWD.out, HF.out, HFF.out⟩, fun i hi => .inl hi, (HO1.out.mono (fun _ h => h.elim)).trans (Only.refl F w1).drew⟩
end Go.Proofs.Ytmkcckkjkfmheaa.Al

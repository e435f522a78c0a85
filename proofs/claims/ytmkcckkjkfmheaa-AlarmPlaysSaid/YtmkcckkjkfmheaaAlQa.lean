/- Alarm: All. -/
import Derived.Test.YtmkcckkjkfmheaaAlW
import Derived.Maps.RangeWalk
set_option linter.unusedVariables false
set_option linter.unusedSimpArgs false
set_option maxRecDepth 100000
namespace Go.Proofs.Ytmkcckkjkfmheaa.Al
open Go.RowKit Go.Maps Go.Proofs.Ytmkcckkjkfmheaa.Base Go.Proofs.Ytmkcckkjkfmheaa.Rws Go.Proofs.Ytmkcckkjkfmheaa.Wh Go.Proofs.YtmkcckkjkfmheaaW.PrintWords Go.Proofs.YtmkcckkjkfmheaaW.PrintMore
attribute [local go_sem] max2_mx min2_mn max_two min_two max_three min_three max_four min_four

/-- Which names have come. -/
def ColN (D : DataW Unit) (left : Lit → Bool) (ss : List K5) : Prop := ss.Nodup ∧ (∀ k ∈ ss, k.wf) ∧ ∀ k : K5, k.wf → (k ∈ ss ↔ (Maps.has D k.l = true ∧ left k.l = false))

theorem ColN.start (D : DataW Unit) : ColN D (Maps.has D) [] := ⟨List.nodup_nil, by simp, fun k _ => by cases Maps.has D k.l <;> simp⟩

theorem ColN.step {D : DataW Unit} {left : Lit → Bool} {ss : List K5} (h : ColN D left ss) {k : K5} (hk : k.wf) (hl : left k.l = true) (hh : Maps.has D k.l = true) : ColN D (fun z => left z && !z.sameKey k.l) (ss ++ [k]) := by
  have hnew : k ∉ ss := fun hx => by have := ((h.2.2 k hk).1 hx).2; rw [hl] at this; cases this
  refine ⟨List.nodup_append.2 ⟨h.1, by simp, fun a ha b hb => by simp at hb; subst hb; exact fun e => hnew (e ▸ ha)⟩, fun y hy => ?_, fun y hy => ?_⟩
  · rcases List.mem_append.1 hy with h1 | h1
    · exact h.2.1 y h1
    · rw [List.mem_singleton.1 h1]; exact hk
  · have hs := K5.same hy hk
    by_cases e : y = k
    · subst e
      simp [hh, hs]
    · simp [h.2.2 y hy, e, hs]

theorem ColN.perm {D : DataW Unit} {left : Lit → Bool} {ss : List K5} {L : List (K5 × Int)} (h : ColN D left ss) (hh : Holds kitH D L) (hl : ∀ z, left z = false) : ss.Perm (L.map Prod.fst) := by
  refine (List.perm_ext_iff_of_nodup h.1 hh.nd).2 (fun k => ?_)
  constructor
  · intro hk
    have hw := h.2.1 k hk
    have h1 := ((h.2.2 k hw).1 hk).1
    have h2 := hh.has k hw
    change Maps.has D k.l = _ at h2
    rw [h1] at h2
    obtain ⟨q, hq, he⟩ := List.any_eq_true.1 h2.symm
    exact List.mem_map.2 ⟨q, hq, of_decide_eq_true he⟩
  · intro hk
    obtain ⟨q, hq, rfl⟩ := List.mem_map.1 hk
    have hw : q.1.wf := (hh.wf q hq).1
    refine (h.2.2 _ hw).2 ⟨?_, hl _⟩
    have h2 := hh.has q.1 hw
    change Maps.has D q.1.l = _ at h2
    rw [h2]
    exact List.any_eq_true.2 ⟨q, hq, decide_eq_true rfl⟩

theorem nodup_le : ∀ {l m : List K5}, l.Nodup → (∀ x ∈ l, x ∈ m) → l.length ≤ m.length
  | [], m, _, _ => Nat.zero_le _
  | x :: l, m, hn, h => by
    have hx : x ∈ m := h x (by simp)
    rw [List.nodup_cons] at hn
    have := nodup_le (m := m.erase x) hn.2 (fun y hy => (List.mem_erase_of_ne (fun (e : y = x) => hn.1 (e ▸ hy))).2 (h y (List.mem_cons_of_mem _ hy)))
    rw [List.length_erase_of_mem hx] at this
    have := List.length_pos_of_mem hx
    rw [List.length_cons]
    omega

def AllP (w : World) (A : List En) (e : Ending) (w' : World) : Prop := ∃ v, e = .returned v ∧ Ns w' (fun k => w.heap.size ≤ k) v (sortN (A.map En.n)) ∧ Only (fun _ => False) w w'

def aggN (x : K5) : Value := .agg #[.int .i64 x.a, .int .i64 x.b, .int .i64 x.c, .int .i64 x.d, .int .i64 x.e]

theorem only_grown' {w w' : World} {v : Value} (h : Only (fun k => v.ownBlock = some k) w w') : w.grownBy w' v.ownBlock :=
  ⟨h.os, h.tape, h.output, h.size, fun k hk hne => h.block k hk (fun e => hne e.symm)⟩

theorem all_a {w : World} {p : Nat} {F : Nat → Prop} {G n last : Int} {A : List En} (h : AH w p F G n last A) : Calls Try.prog 22 #[.pointer (some ⟨p, 0, none⟩)] w (AllP w A) := by
  have hlen := h.len_le
  obtain ⟨gw, bh, bn, bt, FW, hm, hw, hf, hF⟩ := h
  have HM := Lib.hid hm
  have x2 := hm.c2
  obtain ⟨D, hown, hh⟩ := hm.mh
  have HH := Lib.hid hh
  have HL := Lib.hid hlen
  obtain ⟨nn, hnn⟩ : ∃ nn, nn = (A.map En.nh).length := ⟨_, rfl⟩
  rw [← hnn] at hown
  have HBL : Hid (bh < w.heap.size) := Lib.hid hm.mh.lt
  clear hm hw hf hF hh hlen hnn
  go_enter Try.func22, Try.ntmps22
  go_wp2_with (first | (go_at_call 25; refine (none_a HM.out).mono ?_; rintro e w' ⟨rfl, rfl⟩) | (at_range; refine wpList_range_own _ rfl _ 62 rfl 33 3 lawN Try.underlying62 _ bh nn D rfl hown ?_; intro w0 hrg0 hg0 hs0))
  go_frame
  have HO0 : Hid (Only (fun _ => False) w w0) := Lib.hid ((Only.refl _ w).grown hg0 (by simp))
  have HC0 := Lib.hid (ColN.start D)
  clear hg0 hs0 hown
  go_loopw [3, 4] (fun v3 _ wr => ∃ (ss : List K5) (left : Lit → Bool) (cnt : Nat), wr.ranges Try.prog 33 (plainElem Try.prog 3) bh w.heap.size nn D left cnt ∧ Hid (ColN D left ss) ∧ Hid (Ns wr (fun k => w.heap.size < k) v3 ss) ∧ Hid (Only (fun _ => False) w wr)) (fun _ _ wr => wr.rangeLeft bh w.heap.size)
  case atStart => exact ⟨[], _, _, hrg0, HC0, Lib.hid (Row.nil _ _ _ _), HO0⟩
  case round =>
    obtain ⟨ss, left, cnt, hrg, HC, HK, HO⟩ := hrel
    go_wp2_with (first | (at_next; refine wpList_next_ranges _ rfl _ rfl 33 lawN (plainElem Try.prog 3) aggN (Value.int .i64) (fun key kl hkey => by obtain ⟨k, _, hv, _⟩ := key_inv hkey; exact ⟨k, hv⟩) (fun v y hv => by obtain ⟨c, rfl, _⟩ := plainElem_int_inv Try.underlying3 hv; exact ⟨c, rfl⟩) bh w.heap.size nn D _ _ rfl hrg ?_ ?_))
    · intro _ hl0
      have hp := HC.out.perm HH.out hl0
      have hq : sortN ss = sortN (A.map En.n) := sortN_eq (by
        refine hp.trans ?_
        rw [List.map_map]
        exact .refl _)
      have HQ := Lib.hid hq
      have hpl := hp.length_eq
      have HSO := Lib.hid (sortN_p HK.out (by rw [hpl, List.length_map, List.length_map]; have := HL.out; omega))
      clear hp hq hpl hl0 hrg
      go_wp2_with (go_at_call 31; refine HSO.out.mono ?_; rintro e w6 ⟨rfl, out', ht7, rfl, ho7⟩; have HT7 := Lib.hid ht7; have HO7 := Lib.hid ho7; clear ht7 ho7)
      go_ret
      refine ⟨u3, rfl, ?_, HO.out.then_ HO7.out (fun q hq => .inr (Nat.le_of_lt (Row.own HK.out hq).1))⟩
      rw [← HQ.out]
      exact Row.to HT7.out (fun q hq => Nat.le_of_lt (Row.own HT7.out hq).1)
    · intro x c kl y ps w1 cnt1 hkey hlx hRy hat hrg1 hlt hg1 hs1 hen
      have hkx : kl = x.l ∧ x.wf := by
        obtain ⟨k, hkw, hv, hl⟩ := key_inv hkey
        have : x = k := K5.v_inj hv
        subst this
        exact ⟨hl, hkw⟩
      obtain ⟨rfl, hxw⟩ := hkx
      have hrl := hrg1.lt
      have HK1 : Hid (Ns w1 (fun k => w.heap.size < k) u3 ss) := Lib.hid (Row.keep HK.out (fun q hq hlt => hg1.block q hlt (fun e => by have h2 := (Row.own HK.out hq).1; injection e with e; omega)))
      have HO1 : Hid (Only (fun _ => False) w w1) := Lib.hid (HO.out.grown hg1 (fun k hk => by simp at hk; omega))
      have HC1 := Lib.hid (HC.out.step hxw hlx (has_true_of_atKey hat))
      have hsl : ss.length ≤ 20000 := by
        have h1 : ss.length ≤ ((A.map En.nh).map Prod.fst).length := by
          refine nodup_le HC.out.1 (fun k hk => ?_)
          have hw := HC.out.2.1 k hk
          have h1 := ((HC.out.2.2 k hw).1 hk).1
          have h2 := HH.out.has k hw
          change Maps.has D k.l = _ at h2
          rw [h1] at h2
          obtain ⟨q, hq, he⟩ := List.any_eq_true.1 h2.symm
          exact List.mem_map.2 ⟨q, hq, of_decide_eq_true he⟩
        rw [List.length_map, List.length_map] at h1
        have := HL.out
        omega
      obtain ⟨wb, hwb⟩ : ∃ wb, wb = w1.alloc (boxN x) := ⟨_, rfl⟩
      obtain ⟨Nb, hNb⟩ : ∃ Nb, Nb = w1.heap.size := ⟨_, rfl⟩
      have hob : Only (fun k => u3.ownBlock = some k) w1 wb := by rw [hwb]; exact (Only.refl _ w1).alloc _
      have hbb : wb.heap[Nb]? = some (boxN x) := by rw [hwb, hNb]; exact heap_alloc_new w1 _
      have hkb : Ns wb (fun k => w.heap.size < k) u3 ss := Row.keep HK1.out (fun g _ hg => by rw [hwb]; exact heap_alloc_old w1 _ hg)
      obtain ⟨v2, w2, hr2, hK2, hO2⟩ := Ns.app hkb (fun k hk => by have := hob.size; omega) hsl x 35
      have HK2 := Lib.hid hK2
      unfold boxN at hr2
      have HRR := Lib.hid hr2
      have hO12 := hob.trans hO2
      have HRG : Hid (w2.ranges Try.prog 33 (plainElem Try.prog 3) bh w.heap.size nn D (fun z => left z && !z.sameKey x.l) cnt1) := Lib.hid (hrg1.kept (only_grown' hO12) (fun e => by have := (Row.own HK1.out e.symm).1; have := HBL.out; omega) (fun e => by have := (Row.own HK1.out e.symm).1; omega))
      have HO2 : Hid (Only (fun _ => False) w w2) := Lib.hid (HO1.out.then_ hO12 (fun k hk => .inr (by have := (Row.own HK1.out hk).1; omega)))
      have HLT := Lib.hid hlt
      have HL0 := Lib.hid hrg.left_eq
      have z0 : wb.cell? ⟨Nb, 0, none⟩ = some (.int .i64 x.a) := cell_at hbb 0 rfl
      have z1 : wb.cell? ⟨Nb, 1, none⟩ = some (.int .i64 x.b) := cell_at hbb 1 rfl
      have z2 : wb.cell? ⟨Nb, 2, none⟩ = some (.int .i64 x.c) := cell_at hbb 2 rfl
      have z3 : wb.cell? ⟨Nb, 3, none⟩ = some (.int .i64 x.d) := cell_at hbb 3 rfl
      have z4 : wb.cell? ⟨Nb, 4, none⟩ = some (.int .i64 x.e) := cell_at hbb 4 rfl
      unfold boxN at hwb
      clear hg1 hs1 hK2 hO2 hat hlx hrg1 hlt hrg hrl hxw hr2 hO12 hob hkb hsl hbb hRy hkey
      unfold aggN at hen ⊢
      go_upto_region 7 with fail
      rw [← hwb, ← hNb]
      clear hwb hNb
      go_wp2_with ((with_reducible refine gate_builtin (b := .append) (xs := #[.tmp 16, .tmp 18]) rfl ?_); at_builtin; go_loud (refine Go.Lib.wpList_append_run_sl _ rfl (.tmp 16) (.tmp 18) 35 rfl _ _ rfl rfl HRR.out ?_))
      go_roundw
      case rel => exact ⟨ss ++ [x], _, cnt1, HRG.out, HC1, HK2, HO2⟩
      case measure => rw [HRG.out.left_eq, HL0.out]; exact HLT.out
end Go.Proofs.Ytmkcckkjkfmheaa.Al

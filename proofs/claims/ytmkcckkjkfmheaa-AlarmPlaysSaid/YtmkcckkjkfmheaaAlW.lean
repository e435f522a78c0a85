/- Alarm: Due. -/
import Derived.Test.YtmkcckkjkfmheaaAlV
set_option linter.unusedVariables false
set_option linter.unusedSimpArgs false
set_option maxRecDepth 100000
namespace Go.Proofs.Ytmkcckkjkfmheaa.Al
open Go.RowKit Go.Maps Go.Proofs.Ytmkcckkjkfmheaa.Base Go.Proofs.Ytmkcckkjkfmheaa.Rws Go.Proofs.Ytmkcckkjkfmheaa.Wh Go.Proofs.YtmkcckkjkfmheaaW.PrintWords Go.Proofs.YtmkcckkjkfmheaaW.PrintMore
attribute [local go_sem] max2_mx min2_mn max_two min_two max_three min_three max_four min_four

def DueP (w : World) (p : Nat) (F : Nat → Prop) (G e last : Int) (A : List En) (en : Ending) (w' : World) : Prop :=
  ∃ v F', en = .returned v ∧ Ns w' (fun k => w.heap.size ≤ k ∧ ¬ F' k) v (sortN ((dueA G e A).map En.n)) ∧ AH w' p F' G e last (leftA G e A) ∧ (∀ k, F' k → F k ∨ w.heap.size ≤ k) ∧ Only F w w'

theorem Ns.only {w w' : World} {P S : Nat → Prop} {v : Value} {L : List K5} (h : Ns w P v L) (k : Only S w w') (hn : ∀ g, v.ownBlock = some g → ¬ S g) : Ns w' P v L := Row.only h k hn

theorem AH.len_le {w : World} {p : Nat} {F : Nat → Prop} {G n last : Int} {A : List En} (h : AH w p F G n last A) : A.length ≤ 4096 := by
  obtain ⟨gw, bh, bn, bt, FW, hm, ⟨_, _, _, _, _, _, _, _, _, h6⟩, hf, hF⟩ := h
  rwa [List.length_map] at h6

theorem div_pw {G x : Int} (h0 : 0 ≤ G) (h1 : G ≤ 6) (hx : 0 ≤ x ∧ x ≤ 1125899906842624) : 0 ≤ x / pw G ∧ x / pw G ≤ 1125899906842624 := by
  have := pw_cases h0 h1
  rcases this with ⟨_, h⟩ | ⟨_, h⟩ | ⟨_, h⟩ | ⟨_, h⟩ | ⟨_, h⟩ | ⟨_, h⟩ | ⟨_, h⟩ <;> rw [h] <;> omega

set_option maxHeartbeats 8000000 in
theorem due_a {w : World} {p : Nat} {F : Nat → Prop} {G n last : Int} {A : List En} (h : AH w p F G n last A) (x : Int) {e : Int} (he : e = mx (cl x / pw G) n) :
    Calls Try.prog 13 #[.pointer (some ⟨p, 0, none⟩), .int .i64 x] w (DueP w p F G e last A) := by
  have hwfs := h.wfs
  have hlen := h.len_le
  obtain ⟨E, hEp, hEm⟩ := due_list G e A
  have hRn := due_nodup hwfs.2.2.1 hEp
  have HX : Hid (∀ w, Calls Try.prog 26 #[.int .i64 x] w fun e w' => e = .returned (.int .i64 (cl x)) ∧ w = w') := Lib.hid (fun w => clamp_p x w)
  have hy := cl_bounds x
  have hg0 := hwfs.2.2.2.1.1
  have hg1 := hwfs.2.2.2.1.2
  have hsr : Op.shift .shr .i64 (cl x) .i64 G = pure (.int .i64 (cl x / pw G)) := by
    rw [shift_shr_any _ _ _ _ hg0, Nat.min_eq_left (by have : IntKind.i64.bits = 64 := rfl; omega)]
    unfold pw
    rfl
  have hdb := div_pw hg0 hg1 hy
  obtain ⟨y, hyy⟩ : ∃ y, y = cl x := ⟨_, rfl⟩
  rw [← hyy] at hy HX hsr hdb he
  obtain ⟨X, hX⟩ : ∃ X, X = y / pw G := ⟨_, rfl⟩
  rw [← hX] at hsr hdb he
  have HH := Lib.hid h
  obtain ⟨gw, bh, bn, bt, FW, hm, hw, hf, hF⟩ := h
  obtain ⟨R, hR⟩ : ∃ R, R = E.map En.h := ⟨_, rfl⟩
  obtain ⟨N, hN⟩ : ∃ N, N = R.length := ⟨_, rfl⟩
  have HAD : Hid (Calls Try.prog 29 #[.pointer (some ⟨gw, 0, none⟩), .int .i64 X] w.drew fun en w' => ∃ A3 c3 FW3, en = .returned (.slice A3 (N : Nat) c3) ∧ Ks w' (fun k => w.heap.size ≤ k ∧ ¬ FW3 k) (.slice A3 N c3) R ∧ WH w' gw FW3 e last ((leftA G e A).map (En.sh G)) ∧ (∀ k, FW3 k → FW k ∨ w.heap.size ≤ k) ∧ Only FW w.drew w') := Lib.hid ((wh_adv X (hw.only ((Only.refl (fun _ => False) w).drew) (fun _ _ h => h)) (e := e) (by rw [cl_same X hdb.1 hdb.2]; exact he)).mono (by
    rintro en w' ⟨v, F', hen, hk, hw', hf', ho'⟩
    rw [← hEm, ← hR] at hk
    rw [rest_list] at hw'
    obtain ⟨A3, c3, hv, _⟩ := Row.form hk
    rw [← hN] at hv
    exact ⟨A3, c3, F', by rw [hen, hv], by rw [← hv]; exact hk, hw', hf', ho'⟩))
  have x0 := hm.c0
  have x1 := hm.c1
  have HM := Lib.hid hm
  have HFW := Lib.hid hf
  have HFF := Lib.hid hF
  have HWF := Lib.hid hwfs
  have HEP := Lib.hid hEp
  have HRN : Hid R.Nodup := by rw [hR]; exact Lib.hid hRn
  have HR := Lib.hid hR
  have HN := Lib.hid hN
  have HEL : Hid (E.length = N) := Lib.hid (by rw [hN, hR, List.length_map])
  have HNB : Hid (N ≤ 4096) := Lib.hid (by rw [← HEL.out, hEp.length_eq]; exact Nat.le_trans (List.length_filter_le _ _) hlen)
  clear hm hw hf hF hwfs hEp hEm hRn hR hN hlen hy hyy hg0 hg1 hdb hX he
  go_enter Try.func13, Try.ntmps13
  go_wp2_with (go_at_call 25; refine (none_a HM.out).mono ?_; rintro e' w' ⟨rfl, rfl⟩)
  go_region_held3 (fun w' => w'.cell? ⟨p, 0, none⟩ = some (.pointer (some ⟨gw, 0, none⟩)) ∧ w'.cell? ⟨p, 1, none⟩ = some (.int .i64 G)) (first | exact ⟨x0, x1⟩ | exact ⟨x0', x1'⟩) (first | (go_at_call 26; refine (HX.out _).mono ?_; rintro e' w' ⟨rfl, rfl⟩) | (go_at_call 29; refine HAD.out.mono ?_; rintro e' w3 ⟨A3, c3, FW3, rfl, hk3, hw3, hf3, ho3⟩; have hm3 := HM.out.only (w' := w3) (S := FW) (by exact (Only.refl FW w).drew.trans ho3) HFW.out.1 HFW.out.2.1 HFW.out.2.2.1 HFW.out.2.2.2; have x0' : w3.cell? ⟨p, 0, none⟩ = some (.pointer (some ⟨gw, 0, none⟩)) := hm3.c0; have x1' : w3.cell? ⟨p, 1, none⟩ = some (.int .i64 G) := hm3.c1; have HM3 := Lib.hid hm3; have HW3 := Lib.hid hw3; have HF3 := Lib.hid hf3; have HO3 := Lib.hid ho3; have HK3 := Lib.hid hk3; clear hm3 hw3 hf3 ho3 hk3))
  go_upto_region 5 with fail
  go_loopw [5, 24, 7, 8] (fun v5 v24 _ _ wr => ∃ k : Nat, v24 = .int .i64 (k : Int) ∧ k ≤ N ∧ Hid (Ns wr (fun q => w3.heap.size ≤ q) v5 ((E.take k).map En.n)) ∧ Hid (MS wr p gw bh bn bt G (A.filter (fun x => decide (x.h ∉ R.take k)))) ∧ Hid (Only (fun i => i = bh ∨ i = bn ∨ i = bt) w3 wr)) (fun _ v24 _ _ _ => N - (RowKit.intOf v24).toNat)
  case atStart =>
    refine ⟨0, rfl, Nat.zero_le _, Lib.hid (Row.nil _ _ _ _), Lib.hid ?_, Lib.hid (Only.refl _ _)⟩
    have : A.filter (fun x => decide (x.h ∉ R.take 0)) = A := List.filter_eq_self.2 (by simp)
    rw [this]
    exact HM3.out
  case round =>
    obtain ⟨k, rfl, hk, HT, HMS, HO⟩ := hrel
    have hgo : k < N ∨ k = N := by omega
    rcases hgo with hlt | rfl
    · have hlt' : (k : Int) < (N : Int) := by omega
      have hNb := HNB.out
      have hkE : k < E.length := by rw [HEL.out]; exact hlt
      have hEk : E[k]? = some E[k] := List.getElem?_eq_getElem hkE
      have hE0 : E[k] ∈ A := (List.mem_filter.1 (HEP.out.mem_iff.1 (List.getElem_mem hkE))).1
      obtain ⟨e0, he0⟩ : ∃ e0, e0 = E[k] := ⟨_, rfl⟩
      rw [← he0] at hEk hE0
      have hge : R[k]? = some e0.h := by rw [HR.out, List.getElem?_map, hEk]; rfl
      obtain ⟨hst, hin⟩ := due_step HRN.out hge hE0
      have HLK := Lib.hid hlt
      have hbs : bh < w.heap.size ∧ bn < w.heap.size ∧ bt < w.heap.size := ⟨HM.out.mh.lt, HM.out.mn.lt, HM.out.mt.lt⟩
      have hws : w.heap.size ≤ w3.heap.size := HO3.out.size
      have hKr := Row.only HK3.out HO.out (fun q hq e => by have := (Row.own HK3.out hq).1.1; omega)
      rw [← HN.out] at hKr
      obtain ⟨q2, o2, c2, he, hcc⟩ := Row.some_ hKr (by omega)
      injection he with e1 e2 e3
      subst e1 e3
      have hx0 : wr.cell? ⟨q2, o2 + k, none⟩ = some (.int .i64 e0.h) := Row.cell hKr k (by rw [List.getElem?_map, hge]; rfl)
      have hm9 := HMS.out.c3
      have hlk := HMS.out.mn.look (p := En.hn e0) (List.mem_map.2 ⟨e0, hin, rfl⟩)
      obtain ⟨wb, hwb⟩ : ∃ wb, wb = wr.alloc (boxN e0.n) := ⟨_, rfl⟩
      have hob : Only (fun _ => False) wr wb := by rw [hwb]; exact (Only.refl _ wr).alloc _
      obtain ⟨Nb, hNb2⟩ : ∃ Nb, Nb = wr.heap.size := ⟨_, rfl⟩
      have hbb : wb.heap[Nb]? = some (boxN e0.n) := by rw [hwb, hNb2]; exact heap_alloc_new wr _
      have hmb := HMS.out.only hob (fun h => h) (fun h => h) (fun h => h) (fun h => h)
      have HFG := Lib.hid (forget_m hmb hin)
      rw [hst] at HFG
      have HTB := Lib.hid (HT.out.only hob (fun _ _ h => h))
      have HBB := Lib.hid hbb
      have HOB := Lib.hid hob
      have HBS := Lib.hid hbs
      have HWS := Lib.hid hws
      have HNBS : Hid (w3.heap.size ≤ Nb) := Lib.hid (by rw [hNb2]; exact HO.out.size)
      have HNBW : Hid (Nb < wb.heap.size) := Lib.hid (blk_lt hbb)
      obtain ⟨A1, hA1⟩ : ∃ A1, A1 = A.filter (fun x => decide (x.h ∉ R.take (k + 1))) := ⟨_, rfl⟩
      rw [← hA1] at HFG
      have HA1 := Lib.hid hA1
      have HLT : Hid (((E.take k).map En.n).length ≤ 20000) := Lib.hid (by rw [List.length_map, List.length_take]; omega)
      have HTK : Hid ((E.take (k + 1)).map En.n = (E.take k).map En.n ++ [e0.n]) := Lib.hid (by rw [List.take_add_one, hEk]; simp)
      have y0 : wb.cell? ⟨Nb, 0, none⟩ = some (.int .i64 e0.n.a) := cell_at hbb 0 rfl
      have y1 : wb.cell? ⟨Nb, 1, none⟩ = some (.int .i64 e0.n.b) := cell_at hbb 1 rfl
      have y2 : wb.cell? ⟨Nb, 2, none⟩ = some (.int .i64 e0.n.c) := cell_at hbb 2 rfl
      have y3 : wb.cell? ⟨Nb, 3, none⟩ = some (.int .i64 e0.n.d) := cell_at hbb 3 rfl
      have y4 : wb.cell? ⟨Nb, 4, none⟩ = some (.int .i64 e0.n.e) := cell_at hbb 4 rfl
      obtain ⟨⟨a, b', c, d, ee⟩, t0, h0⟩ := e0
      unfold En.hn K5.v at hlk
      unfold K5.v at HFG
      unfold boxN at hwb
      simp only at hlk hwb y0 y1 y2 y3 y4 hx0 HFG
      obtain ⟨OUT, hOUT⟩ : ∃ OUT, OUT = (E.take k).map En.n := ⟨_, rfl⟩
      rw [← hOUT] at HTB HLT HTK
      clear hk hkE hEk hE0 he0 hge hst hin hbs hws hKr hcc hob hbb hmb hA1 hOUT
      go_upto_region 8 with fail
      rw [← hwb, ← hNb2]
      clear hwb hNb2 hlk
      go_upto_region 9 with (go_at_call 30; refine HFG.out.mono ?_; rintro e' w4 ⟨rfl, hm4, ho4⟩)
      have hnd : ∀ i, (i = bh ∨ i = bn ∨ i = bt) → i < w3.heap.size := fun i hi => by have := HBS.out; have := HWS.out; omega
      have hb4 : w4.heap[Nb]? = some (boxN ⟨a, b', c, d, ee⟩) := ho4.blk HBB.out (fun h => by have := hnd _ h; have := HNBS.out; omega)
      have z0 : w4.cell? ⟨Nb, 0, none⟩ = some (.int .i64 a) := cell_at hb4 0 rfl
      have z1 : w4.cell? ⟨Nb, 1, none⟩ = some (.int .i64 b') := cell_at hb4 1 rfl
      have z2 : w4.cell? ⟨Nb, 2, none⟩ = some (.int .i64 c) := cell_at hb4 2 rfl
      have z3 : w4.cell? ⟨Nb, 3, none⟩ = some (.int .i64 d) := cell_at hb4 3 rfl
      have z4 : w4.cell? ⟨Nb, 4, none⟩ = some (.int .i64 ee) := cell_at hb4 4 rfl
      have ht4 := HTB.out.only ho4 (fun q hq h => by have := (Row.own HTB.out hq).1; have := hnd _ h; omega)
      obtain ⟨v2, w5, hr2, t2, p2⟩ := ht4.app (fun q hq => by have := HNBS.out; have := HNBW.out; have := ho4.size; omega) HLT.out ⟨a, b', c, d, ee⟩ 35
      unfold boxN at hr2
      simp only at hr2
      have HR2 := Lib.hid hr2
      have HT2 := Lib.hid t2
      have hown : ∀ q, u5.ownBlock = some q → w3.heap.size ≤ q := fun q hq => (Row.own ht4 hq).1
      have HM5 := Lib.hid (hm4.only p2 (fun h => by have := hown _ h; have := blk_lt HM3.out.blk; omega) (fun h => by have := hown _ h; have := hnd _ (.inl rfl); omega) (fun h => by have := hown _ h; have := hnd _ (.inr (.inl rfl)); omega) (fun h => by have := hown _ h; have := hnd _ (.inr (.inr rfl)); omega))
      have HO5 : Hid (Only (fun i => i = bh ∨ i = bn ∨ i = bt) w3 w5) := Lib.hid (((HO.out.trans (HOB.out.mono (fun _ h => h.elim))).trans ho4).then_ p2 (fun q hq => .inr (hown q hq)))
      clear hm4 ho4 hnd hb4 ht4 hr2 t2 p2 hown y0 y1 y2 y3 y4 hx0 hm9
      go_wp2_with (
        first
        | ((with_reducible refine gate_builtin (b := .append) (xs := #[.tmp 38, .tmp 40]) rfl ?_); at_builtin; go_loud (refine Go.Lib.wpList_append_run_sl _ rfl (.tmp 38) (.tmp 40) 35 rfl _ _ rfl rfl HR2.out ?_)))
      go_roundw
      case rel =>
        refine ⟨k + 1, by go_num, by omega, Lib.hid ?_, Lib.hid ?_, HO5⟩
        · rw [HTK.out]; exact HT2.out
        · rw [← HA1.out]; exact HM5.out
      case measure => simp [RowKit.intOf]; omega
    · have hge : ¬ (k : Int) < k := by omega
      have htk : R.take k = E.map En.h := by rw [HN.out, List.take_length, HR.out]
      have hek : (E.take k).map En.n = E.map En.n := by rw [← HEL.out, List.take_length]
      have hm6 := HMS.out
      rw [htk, due_gone HWF.out.2.2.1 HEP.out] at hm6
      have ht6 := HT.out
      rw [hek] at ht6
      have HS := Lib.hid (sortN_p ht6 (by rw [List.length_map, HEL.out]; have := HNB.out; omega))
      have HM6 := Lib.hid hm6
      have HT6 := Lib.hid ht6
      have HQ : Hid (sortN (E.map En.n) = sortN ((dueA G e A).map En.n)) := Lib.hid (sortN_eq (HEP.out.map En.n))
      clear htk hek hm6 ht6
      go_wp2_with (go_at_call 31; refine HS.out.mono ?_; rintro e' w6 ⟨rfl, out', ht7, rfl, ho7⟩; have HT7 := Lib.hid ht7; have HO7 := Lib.hid ho7; clear ht7 ho7)
      go_ret
      have hbs : bh < w.heap.size ∧ bn < w.heap.size ∧ bt < w.heap.size := ⟨HM.out.mh.lt, HM.out.mn.lt, HM.out.mt.lt⟩
      have hp0 : p < w.heap.size := blk_lt HM.out.blk
      have hws : w.heap.size ≤ w3.heap.size := HO3.out.size
      have hown : ∀ q, u5.ownBlock = some q → w3.heap.size ≤ q := fun q hq => (Row.own HT6.out hq).1
      have hfl : ∀ i, FW3 i → i < w3.heap.size := fun i hi => HW3.out.flt i hi
      have hin : ∀ i, i < w.heap.size → ¬ FW i → ¬ FW3 i := fun i h1 h2 h3 => (HF3.out i h3).elim h2 (fun h => by omega)
      have hF := HFF.out
      have hf := HFW.out
      have h0 := hin p hp0 hf.1
      have h1 := hin bh hbs.1 hf.2.1
      have h2 := hin bn hbs.2.1 hf.2.2.1
      have h3 := hin bt hbs.2.2 hf.2.2.2
      have hm7 := HM6.out.only HO7.out (fun h => by have := hown _ h; omega) (fun h => by have := hown _ h; omega) (fun h => by have := hown _ h; omega) (fun h => by have := hown _ h; omega)
      have hw7 := (HW3.out.only HO.out (fun i hi h => by
        rcases h with rfl | rfl | rfl
        · exact h1 hi
        · exact h2 hi
        · exact h3 hi)).only HO7.out (fun i hi h => by have := hown _ h; have := hfl i hi; omega)
      have hlt : ∀ i, (i = p ∨ i = bh ∨ i = bn ∨ i = bt ∨ FW3 i) → i < w3.heap.size := fun i hi => by
        rcases hi with rfl | rfl | rfl | rfl | h
        · omega
        · omega
        · omega
        · omega
        · exact hfl i h
      refine ⟨u5, fun i => i = p ∨ i = bh ∨ i = bn ∨ i = bt ∨ FW3 i, rfl, ?_, ⟨gw, bh, bn, bt, FW3, hm7, hw7, ⟨h0, h1, h2, h3⟩, fun i => Iff.rfl⟩, fun i hi => ?_, ?_⟩
      · rw [← HQ.out]
        exact Row.to HT7.out (fun q hq => ⟨by have := hown q hq; omega, fun h => by have := hown q hq; have := hlt q h; omega⟩)
      · rcases hi with h | h | h | h | h
        · exact .inl ((hF i).2 (.inl h))
        · exact .inl ((hF i).2 (.inr (.inl h)))
        · exact .inl ((hF i).2 (.inr (.inr (.inl h))))
        · exact .inl ((hF i).2 (.inr (.inr (.inr (.inl h)))))
        · exact (HF3.out i h).imp (fun h => (hF i).2 (.inr (.inr (.inr (.inr h))))) id
      · have g3 : Only F w w3 := ((Only.refl F w).drew).trans (HO3.out.mono (fun i h => (hF i).2 (.inr (.inr (.inr (.inr h))))))
        have g4 : Only F w wr := g3.trans (HO.out.mono (fun i h => by
          rcases h with h | h | h
          · exact (hF i).2 (.inr (.inl h))
          · exact (hF i).2 (.inr (.inr (.inl h)))
          · exact (hF i).2 (.inr (.inr (.inr (.inl h))))))
        exact g4.then_ HO7.out (fun q hq => .inr (by have := hown q hq; omega))
end Go.Proofs.Ytmkcckkjkfmheaa.Al

/- Ring: Share. -/
import Derived.Test.YtbjepnneklnenaaRgH
set_option linter.unusedVariables false
set_option linter.unusedSimpArgs false
set_option maxRecDepth 100000
namespace Go.Proofs.Ytbjepnneklnenaa.Rg
open Go.RowKit Go.Maps Go.Shelf Go.Lib Go.Sort Go.Proofs.Ytbjepnneklnenaa.Base Go.Proofs.Ytbjepnneklnenaa.Rws Go.Proofs.Ytbjepnneklnenaa.Crc Go.Proofs.YtbjepnneklnenaaW.PrintWords Go.Proofs.YtbjepnneklnenaaW.PrintMore
attribute [local go_sem] max2_mx min2_mn max_two min_two max_three min_three max_four min_four

set_option maxHeartbeats 4000000 in
theorem share_p {w : World} {g : Nat} {Q : Nat → Prop} {v1 v2 : Value} {l : List Int} {R : Nat} (h : RG w g Q v1 v2 (srt l) (sortP (pts (srt l) R))) (hz : wr l (R : Int) = 0) {B : Option Addr} {d : Nat} {ks : List ByteArray} (hr : RdS w B ks) (hk : ks.length ≤ 20) (hkl : ∀ k ∈ ks, k.size ≤ 5000) :
    Calls Try.prog 14 #[.pointer (some ⟨g, 0, none⟩), .slice B ks.length d] w fun e w' => ∃ v, e = .returned v ∧ Ls w' (fun k => w.heap.size ≤ k) v (loads (srt l) (ks.map (fun k => (ow l R (sumZ k)).1))) ∧ Only (fun _ => False) w w' := by
  obtain ⟨h1, h2, h3, h4, h5⟩ := wr_zero hz
  have HP := Lib.hid (points_p h)
  rw [sorted_len] at HP
  by_cases h0 : l.length = 0
  · rw [h0, Nat.zero_mul] at HP
    have hs : srt l = [] := List.length_eq_zero_iff.1 (by rw [srt_len]; exact h0)
    rw [hs]
    obtain ⟨n2, hn2⟩ : ∃ n2, n2 = ks.length := ⟨_, rfl⟩
    rw [← hn2]
    clear h hz hr hk hkl h1 h2 h3 h4 h5 h0 hs hn2
    go_enter Try.func14, Try.ntmps14
    go_wp2_with (go_at_call 12; refine HP.out.mono ?_; rintro e w' ⟨rfl, rfl⟩)
    go_ret
    exact ⟨_, rfl, Row.nil _ _ _ _, Only.refl _ _⟩
  · have hpos : 0 < l.length * R := Nat.mul_pos (by omega) (by omega)
    obtain ⟨pr, hpr⟩ : ∃ pr, pr = l.length * R := ⟨_, rfl⟩
    rw [← hpr] at HP hpos
    have hp0 : ((pr : Int) == 0) = false := by simp; omega
    have HOW : Hid (∀ w1, Only (fun _ => False) w w1 → ∀ k ∈ ks, Calls Try.prog 10 #[.pointer (some ⟨g, 0, none⟩), .string k] w1 fun e w' => e = .returned (.tuple #[.int .i64 (ow l R (sumZ k)).1, .bool (ow l R (sumZ k)).2]) ∧ Only (fun _ => False) w1 w') := Lib.hid (fun w1 ho k hk => own_any (h.only ho (fun _ _ _ h => h)) hz k (hkl k hk))
    have HB : Hid (∀ k, 0 ≤ (ow l R (sumZ k)).1 ∧ (ow l R (sumZ k)).1 ≤ 63) := Lib.hid (fun k => bad_no h4 _ (ow_mem hz h0))
    have HSB : Hid (∀ m ∈ srt l, 0 ≤ m ∧ m ≤ 63) := Lib.hid (fun m hm => bad_no h4 m (mem_srt.1 hm))
    have HSL : Hid ((srt l).length ≤ 64) := Lib.hid (by rw [srt_len]; exact h3)
    obtain ⟨A1, c1, hv1, _⟩ := Row.form h.ms
    subst hv1
    have HRM := Lib.hid (Ks.rd h.ms)
    have HRS := Lib.hid hr
    have KE : Hid (∀ w', Only (fun _ => False) w w' → w'.cell? ⟨g, 0, none⟩ = some (.slice A1 (srt l).length c1)) := Lib.hid (fun w' ho => cell_at (ho.blk h.blk (fun h => h)) 0 rfl)
    obtain ⟨own, hown⟩ : ∃ own, own = fun k => (ow l R (sumZ k)).1 := ⟨_, rfl⟩
    have hown2 : ∀ k, (ow l R (sumZ k)).1 = own k := fun k => by rw [hown]
    simp only [hown2] at HOW HB ⊢
    obtain ⟨bw, hbw⟩ : ∃ bw, bw = fun k => (ow l R (sumZ k)).2 := ⟨_, rfl⟩
    have hbw2 : ∀ k, (ow l R (sumZ k)).2 = bw k := fun k => by rw [hbw]
    simp only [hbw2] at HOW
    obtain ⟨sl, hsl⟩ : ∃ sl, sl = srt l := ⟨_, rfl⟩
    rw [← hsl] at HSB HRM KE HSL ⊢
    obtain ⟨n2, hn2⟩ : ∃ n2, n2 = ks.length := ⟨_, rfl⟩
    have HN2 := Lib.hid hn2
    rw [← hn2] at hk ⊢
    obtain ⟨nm, hnm⟩ : ∃ nm, nm = sl.length := ⟨_, rfl⟩
    have HNM := Lib.hid hnm
    rw [← hnm] at KE HSL
    have hnmb : nm ≤ 64 := HSL.out
    clear h hz hr hkl h1 h2 h3 h4 h5 h0 hpos hpr hown hown2 hbw hbw2 hsl hn2 hnm HSL
    have hmm := @run_makeMap Try.prog
    go_enter Try.func14, Try.ntmps14
    go_upto_region 4 with (go_at_call 12; refine HP.out.mono ?_; rintro e w' ⟨rfl, rfl⟩)
    clear hmm
    have HCT0 : Hid (Ct (w.alloc (.map #[] 0)) w.heap.size []) := Lib.hid ⟨.map [], 0, World.ownsMap_made w Try.prog 3 (plainElem Try.prog 3), by simp, fun k hk => by rfl⟩
    have HO0 : Hid (Only (fun _ => False) w (w.alloc (.map #[] 0))) := Lib.hid ((Only.refl _ w).alloc _)
    obtain ⟨w1, hw1⟩ : ∃ w1, w1 = w.alloc (.map #[] 0) := ⟨_, rfl⟩
    obtain ⟨b, hb⟩ : ∃ b, b = w.heap.size := ⟨_, rfl⟩
    have HBN : Hid (w.heap.size ≤ b) := Lib.hid (by omega)
    rw [← hw1] at HCT0 HO0 ⊢
    rw [← hb] at HCT0 ⊢
    clear hw1 hb HP hp0
    go_upto_region 5 with fail
    go_loopw [19, 7, 8, 9] (fun v19 _ _ _ wr => ∃ i : Nat, v19 = .int .i64 (i : Int) ∧ i ≤ n2 ∧ Hid (Ct wr b ((ks.take i).map own)) ∧ Hid (Only (fun _ => False) w wr)) (fun v19 _ _ _ _ => n2 - (RowKit.intOf v19).toNat)
    case atStart => exact ⟨0, rfl, Nat.zero_le _, HCT0, HO0⟩
    case round =>
      clear HCT0 HO0
      obtain ⟨i, rfl, hi, HCT, HO⟩ := hrel
      have hgo : i < n2 ∨ i = n2 := by omega
      rcases hgo with hlt | rfl
      · have hlt' : (i : Int) < (n2 : Int) := by omega
        obtain ⟨k, hk2⟩ : ∃ k, ks[i]? = some k := ⟨_, List.getElem?_eq_getElem (by rw [← HN2.out]; exact hlt)⟩
        obtain ⟨ad, rfl, hx⟩ := (HRS.out.only HO.out) i k hk2
        have HC := Lib.hid (fun w1 ho => HOW.out w1 ho k (List.mem_of_getElem? hk2))
        have hxb := HB.out k
        obtain ⟨x, hxx⟩ : ∃ x, x = own k := ⟨_, rfl⟩
        obtain ⟨bx, hbx⟩ : ∃ bx, bx = bw k := ⟨_, rfl⟩
        have HTK : Hid ((ks.take (i + 1)).map own = (ks.take i).map own ++ [x]) := Lib.hid (by rw [List.take_add_one, hk2, Option.toList_some, List.map_append, hxx]; rfl)
        rw [← hxx, ← hbx] at HC
        rw [← hxx] at hxb
        have HXB := Lib.hid hxb
        have HLEN : Hid (((ks.take i).map own).length ≤ 20) := Lib.hid (by rw [List.length_map, List.length_take]; omega)
        obtain ⟨is, his⟩ : ∃ is, is = (ks.take i).map own := ⟨_, rfl⟩
        rw [← his] at HCT HTK HLEN
        clear hk2 hxx hbx his hxb
        go_upto_region 8 with (go_at_call 10; refine (HC.out _ HO.out).mono ?_; rintro e w2 ⟨rfl, ho⟩; have HCT2 := Lib.hid (HCT.out.only ho (fun h => h)); have HO2 := Lib.hid (HO.out.trans ho); clear ho)
        have hwk : (Lit.int .i64 x).wf = true := wf64 (by have := HXB.out; omega) (by have := HXB.out; omega)
        obtain ⟨c, hc⟩ : ∃ c, c = is.count x := ⟨_, rfl⟩
        have hlk : (Instr.lookup 62 (.map (some b)) (.int .i64 x) false).run Try.prog w2 = .ok (.int .i64 (c : Int)) w2 := by rw [hc]; exact HCT2.out.look x hwk
        have hcl : c ≤ 20 := by rw [hc]; exact Nat.le_trans List.count_le_length HLEN.out
        have hw1 : wrap64 ((c : Int) + 1) = (c : Int) + 1 := by unfold wrap64; omega
        have HCC := Lib.hid hc
        obtain ⟨D, nD, hownm, hnl, hcs⟩ := HCT2.out
        have HCS := Lib.hid hcs
        have HM := Lib.hid hownm.isMap
        have HNL := Lib.hid hnl
        have hnmx : nD < maxLen := by have := HLEN.out; unfold maxLen; omega
        have hpl : plainElem (H := Unit) Try.prog 3 (.int .i64 (wrap64 ((c : Int) + 1))) = some (.lit (.int .i64 ((c : Int) + 1)), []) := by rw [hw1]; exact plain3 (wf64 (by omega) (by omega))
        have hkey : keyOf Try.prog 3 (.int .i64 x) = some (.int .i64 x) := Maps.keyOf_int_mk Try.underlying3 hwk
        have HWK := Lib.hid hwk
        clear hc hcs hnl hcl hwk hx
        go_wp2_with (at_mapUpdate; go_loud (refine wpList_mapUpdate_own _ rfl _ _ _ 62 rfl 3 3 law Try.underlying62 _ b nD D rfl hownm hnmx _ _ (.int .i64 x) rfl rfl hkey _ [] hpl ?_; intro w4 hown4 hgrow4; have HO4 := Lib.hid ((Only.refl (fun k => k = b) w2).grown hgrow4 (fun k hk => .inl (by simpa using hk.symm))); have HW4 := Lib.hid hown4; clear hown4 hgrow4 hlk hw1 hpl hkey hnmx hownm))
        go_roundw
        case rel =>
          refine ⟨i + 1, by go_num, by omega, Lib.hid ⟨_, _, HW4.out, ?_, ?_⟩, Lib.hid (HO2.out.then_ HO4.out (fun q hq => .inr (by rw [hq]; exact HBN.out)))⟩
          · rw [HTK.out, List.length_append, List.length_singleton]
            have := HNL.out
            omega
          have := HCS.out.put HM.out x HWK.out
          rw [← HCC.out] at this
          rw [HTK.out]
          exact this
        case measure => simp [RowKit.intOf]; omega
      · have hge : ¬ (i : Int) < i := by omega
        have HCT2 : Hid (Ct wr b (ks.map own)) := Lib.hid (by have := HCT.out; rwa [List.take_of_length_le (by rw [← HN2.out]; exact Nat.le_refl _)] at this)
        have hy0 := KE.out _ HO.out
        have HOL : Hid (∀ m, (ks.map own).count m ≤ 20) := Lib.hid (fun m => by have := List.count_le_length (a := m) (l := ks.map own); rw [List.length_map, ← HN2.out] at this; omega)
        obtain ⟨os, hos⟩ : ∃ os, os = ks.map own := ⟨_, rfl⟩
        have HOS := Lib.hid hos
        rw [← hos] at HCT2 HOL
        clear HCT HOW HB HN2 HRS hos hi
        go_upto_region 12 with fail
        clear hy0
        go_loopw [39, 10, 12] (fun v39 v10 _ wr => ∃ j : Nat, v39 = .int .i64 (j : Int) ∧ j ≤ nm ∧ Hid (Ls wr (fun k => w.heap.size ≤ k) v10 (loads (sl.take j) os)) ∧ Hid (Ct wr b os) ∧ Hid (Only (fun _ => False) w wr)) (fun v39 _ _ _ => nm - (RowKit.intOf v39).toNat)
        case atStart => exact ⟨0, rfl, Nat.zero_le _, Lib.hid (Row.nil _ _ _ _), HCT2, HO⟩
        case round =>
          clear HCT2 HO
          obtain ⟨j, rfl, hj, HL, HCT, HO⟩ := hrel
          have hgo : j < nm ∨ j = nm := by omega
          rcases hgo with hlt2 | rfl
          · have hlt2' : (j : Int) < (nm : Int) := by omega
            obtain ⟨m, hm⟩ : ∃ m, sl[j]? = some m := ⟨_, List.getElem?_eq_getElem (by rw [← HNM.out]; exact hlt2)⟩
            obtain ⟨ad, rfl, hx⟩ := (HRM.out.only HO.out) j m hm
            have hmb := HSB.out m (List.mem_of_getElem? hm)
            have hwk : (Lit.int .i64 m).wf = true := wf64 (by omega) (by omega)
            obtain ⟨c, hc⟩ : ∃ c, c = os.count m := ⟨_, rfl⟩
            have hlk : (Instr.lookup 62 (.map (some b)) (.int .i64 m) false).run Try.prog wr = .ok (.int .i64 (c : Int)) wr := by rw [hc]; exact HCT.out.look m hwk
            have HTK : Hid (loads (sl.take (j + 1)) os = loads (sl.take j) os ++ [(m, (c : Int))]) := Lib.hid (by
              unfold loads
              rw [List.take_add_one, hm, Option.toList_some, List.map_append, hc]
              rfl)
            obtain ⟨v9, w9, hr9, hk9, ho9⟩ := Ls.app HL.out (fun q hq => by have := HO.out.size; omega) (by unfold loads; rw [List.length_map, List.length_take]; omega) (m, (c : Int)) 37
            have HRR := Lib.hid hr9
            rw [← HTK.out] at hk9
            have HK9 := Lib.hid hk9
            have HC9 := Lib.hid (HCT.out.only ho9 (HCT.out.neRow HL.out))
            have HO9 : Hid (Only (fun _ => False) w w9) := Lib.hid (HO.out.then_ ho9 (fun q hq => .inr (Row.own HL.out hq).1))
            clear hm hmb hwk hc hr9 hk9 ho9
            go_wp2_with ((with_reducible refine gate_builtin (b := .append) (xs := #[.tmp 43, .tmp 49]) rfl ?_); at_builtin; go_loud (refine Go.Lib.wpList_append_run_sl _ rfl (.tmp 43) (.tmp 49) 37 rfl _ _ rfl rfl HRR.out ?_))
            go_roundw
            case rel => exact ⟨j + 1, by go_num, by omega, HK9, HC9, HO9⟩
            case measure => simp [RowKit.intOf]; omega
          · have hge2 : ¬ (j : Int) < j := by omega
            go_wp2
            go_ret
            refine ⟨_, rfl, ?_, HO.out⟩
            have := HL.out
            rw [← HOS.out]
            rwa [List.take_of_length_le (by rw [← HNM.out]; exact Nat.le_refl _)] at this
end Go.Proofs.Ytbjepnneklnenaa.Rg

/- Hist: Merge. -/
import Derived.Test.YtognnjhphnhbfaaHiX
set_option linter.unusedVariables false
set_option linter.unusedSimpArgs false
namespace Go.Proofs.Ytognnjhphnhbfaa.Hi
open Go.RowKit Go.Maps Go.Proofs.Ytognnjhphnhbfaa.Base Go.Proofs.Ytognnjhphnhbfaa.Rws Go.Proofs.YtognnjhphnhbfaaW.PrintWords Go.Proofs.YtognnjhphnhbfaaW.PrintMore
attribute [local go_sem] max2_mx min2_mn max_two min_two max_three min_three max_four min_four

theorem idx_low {i : Int} (h0 : 0 ≤ i) (h1 : i ≤ 1472) : idx (low i) = i := by
  rw [low_in h0 h1]
  have hb := lo_bd (i := i.toNat) (by omega)
  unfold idx
  rw [cl_same _ (by omega) (by omega), Int.toNat_natCast, ix_lo _ (by omega)]
  omega

theorem runs_perm (ys : List Int) : (runs (fun i => ys.count i) (keysM ys)).Perm ys := by
  rw [List.perm_iff_count]
  intro x
  have hn : (keysM ys).Nodup := (keysM_sorted ys).imp (fun h => Int.ne_of_lt h)
  rw [count_runs _ x hn]
  split
  · rfl
  · rename_i h
    rw [mem_keysM] at h
    exact (List.count_eq_zero.2 h).symm

theorem runs_cut (c : Int → Nat) (keys : List Int) (j : Nat) {i : Int} (h : keys[j]? = some i) : runs c (keys.take (j + 1)) = runs c (keys.take j) ++ List.replicate (c i) i := by
  unfold runs
  rw [List.take_add_one, h, List.flatMap_append]
  simp

theorem runs_len (c : Int → Nat) (keys : List Int) (j : Nat) : (runs c (keys.take j)).length ≤ (runs c keys).length := by
  have h : runs c keys = runs c (keys.take j) ++ runs c (keys.drop j) := by
    unfold runs
    rw [← List.flatMap_append, List.take_append_drop]
  rw [h, List.length_append]
  omega

theorem HS.perm {w : World} {g b : Nat} {is js : List Int} (h : HS w g b is) (hp : is.Perm js) : HS w g b js := by
  refine ⟨by rw [← hp.length_eq]; exact h.blk, ?_⟩
  obtain ⟨D, n, ho, hn, hc⟩ := h.map
  exact ⟨D, n, ho, by rw [← hp.length_eq]; exact hn, ⟨fun k hk => by rw [← hp.count_eq]; exact hc.at_ k hk, fun k hk => by rw [← hp.mem_iff]; exact hc.has_ k hk, fun k hk => hc.bd k (hp.mem_iff.2 hk)⟩⟩

theorem sum2 (a b : Nat) (ha : a ≤ 5000) (hb : b ≤ 5000) : wrap64 ((a : Int) + (b : Int)) = (a : Int) + (b : Int) ∧ IntKind.i64.wrap ((a : Int) + (b : Int)) = (a : Int) + (b : Int) ∧ (Lit.int .i64 ((a : Int) + (b : Int))).wf = true :=
  ⟨by unfold wrap64; omega, by rw [IntKind.wrap_i64]; omega, wf64 (by omega) (by omega)⟩

theorem merge_nil (v : Value) (hv : ∃ a, v = .pointer a) (w : World) : Calls Try.prog 27 #[.pointer none, v] w fun e w' => e = .returned (.int .i64 1) ∧ w = w' := by
  obtain ⟨a, rfl⟩ := hv
  go_enter Try.func27, Try.ntmps27
  go_wp2_with (go_at_call 33; refine (none_nil _).mono ?_; rintro e w' ⟨rfl, rfl⟩)
  go_ret
  exact ⟨rfl, rfl⟩

set_option maxHeartbeats 4000000 in
theorem merge_none {g b : Nat} {is : List Int} (w : World) (h : HS w g b is) : Calls Try.prog 27 #[.pointer (some ⟨g, 0, none⟩), .pointer none] w fun e w' => e = .returned (.int .i64 0) ∧ w = w' := by
  have HG := Lib.hid h
  clear h
  go_enter Try.func27, Try.ntmps27
  go_wp2_with (first | (go_at_call 33; refine (none_p _ HG.out).mono ?_; rintro e w' ⟨rfl, rfl⟩) | (go_at_call 24; refine (rows_nil _).mono ?_; rintro e w' ⟨rfl, rfl⟩))
  go_loopw [12, 6] (fun v12 _ wr => v12 = .int .i64 0 ∧ wr = w) (fun _ _ _ => 0)
  case atStart => exact ⟨rfl, rfl⟩
  case round =>
    obtain ⟨rfl, rfl⟩ := hrel
    go_wp2
    go_ret
    exact ⟨rfl, rfl⟩

set_option maxHeartbeats 8000000 in
set_option maxRecDepth 100000 in
theorem merge_p {g b g2 b2 : Nat} {is ys : List Int} (w : World) (h : HS w g b is) (h2 : HS w g2 b2 ys) (hg : g ≠ g2) (hb : b ≠ b2) (hl : is.length ≤ 1000) (hl2 : ys.length ≤ 1000) :
    Calls Try.prog 27 #[.pointer (some ⟨g, 0, none⟩), .pointer (some ⟨g2, 0, none⟩)] w fun e w' => e = .returned (.int .i64 0) ∧ HS w' g b (is ++ ys) ∧ HS w' g2 b2 ys ∧ Only (fun k => k = g ∨ k = b ∨ k = b2) w w' := by
  have HG := Lib.hid h
  have HR := Lib.hid (rows_p w h2 hl2)
  obtain ⟨D2, n2, _, _, hcs2⟩ := h2.map
  have HBD : Hid (∀ k ∈ ys, 0 ≤ k ∧ k ≤ 1472) := Lib.hid hcs2.bd
  have HNE : Hid (g ≠ g2 ∧ b ≠ b2 ∧ g ≠ b ∧ g ≠ b2 ∧ g2 ≠ b) := Lib.hid ⟨hg, hb, h.map.ne h.blk, h2.map.ne h.blk, h.map.ne h2.blk⟩
  have HLL : Hid (is.length ≤ 1000 ∧ ys.length ≤ 1000) := Lib.hid ⟨hl, hl2⟩
  have HBL : Hid (g < w.heap.size ∧ b < w.heap.size) := Lib.hid ⟨blk_lt h.blk, h.map.lt⟩
  clear h h2 hg hb hl hl2 hcs2
  go_enter Try.func27, Try.ntmps27
  go_wp2_with (first | (go_at_call 33; refine (none_p _ HG.out).mono ?_; rintro e w' ⟨rfl, rfl⟩) | (go_at_call 24; refine HR.out.mono ?_; rintro e w2 ⟨v2, rfl, hr2, hh2, ho2⟩; have HR2 := Lib.hid hr2; have HH2 := Lib.hid hh2; have HOW := Lib.hid ho2; obtain ⟨A, cp, rfl, _⟩ := hr2.form; clear hr2 hh2 ho2))
  obtain ⟨M, hM⟩ : ∃ M, M = (rowsM ys).length := ⟨_, rfl⟩
  have HM := Lib.hid hM
  have hM1 : M ≤ 1000 := by
    have h1 := keys_len ys
    have h2 := HLL.out
    rw [hM]
    unfold rowsM
    rw [List.length_map]
    omega
  rw [← hM]
  clear hM
  have HG2 : Hid (HS w2 g b is) := Lib.hid (HG.out.only HOW.out (fun h => HNE.out.2.2.2.1 h) (fun h => HNE.out.2.1 h))
  go_loopw [12, 6] (fun v12 _ wr => ∃ (j : Nat), v12 = .int .i64 (j : Int) ∧ j ≤ M ∧ Hid (HS wr g b (is ++ runs (fun i => ys.count i) ((keysM ys).take j))) ∧ Hid (Only (fun k => k = g ∨ k = b) w2 wr)) (fun v12 _ _ => M - (RowKit.intOf v12).toNat)
  case atStart => exact ⟨0, rfl, Nat.zero_le _, by rw [List.take_zero]; show Hid (HS w2 g b (is ++ [])); rw [List.append_nil]; exact HG2, Lib.hid (Only.refl _ _)⟩
  case round =>
    obtain ⟨j, rfl, hj, HS1, HO⟩ := hrel
    have hgo : j < M ∨ j = M := by omega
    rcases hgo with hlt | rfl
    · have hlt' : (j : Int) < (M : Int) := by omega
      have hjk : j < (keysM ys).length := by have := HM.out; unfold rowsM at this; rw [List.length_map] at this; omega
      obtain ⟨i, hi⟩ : ∃ i, (keysM ys)[j]? = some i := ⟨_, List.getElem?_eq_getElem hjk⟩
      have him : i ∈ ys := mem_keysM.1 (List.mem_of_getElem? hi)
      have hib := HBD.out i him
      obtain ⟨c, hc⟩ : ∃ c, c = ys.count i := ⟨_, rfl⟩
      have hc0 : 0 < c := by rw [hc]; exact List.count_pos_iff.2 him
      have hc1 : c ≤ 1000 := by have h1 := HLL.out.2; have h2 : ys.count i ≤ ys.length := List.count_le_length; omega
      obtain ⟨cur, hcur⟩ : ∃ cur, cur = is ++ runs (fun i => ys.count i) ((keysM ys).take j) := ⟨_, rfl⟩
      have hcl : cur.length ≤ 2000 := by
        have h1 := HLL.out
        have h2 := runs_len (fun i => ys.count i) (keysM ys) j
        rw [(runs_perm ys).length_eq] at h2
        rw [hcur, List.length_append]
        omega
      have HNX : Hid (is ++ runs (fun i => ys.count i) ((keysM ys).take (j + 1)) = cur ++ List.replicate c i) := Lib.hid (by rw [runs_cut _ _ j hi, hcur, hc, List.append_assoc])
      rw [← hcur] at HS1
      obtain ⟨lw, hlw⟩ : ∃ lw, lw = low i := ⟨_, rfl⟩
      obtain ⟨hgh, hhg⟩ : ∃ hgh, hgh = high i := ⟨_, rfl⟩
      have hx : (rowsM ys)[j]? = some ⟨lw, hgh, (c : Int)⟩ := by unfold rowsM; rw [List.getElem?_map, hi, hlw, hhg, hc]; rfl
      have HX : Hid (∀ w, Calls Try.prog 8 #[.int .i64 lw] w fun e w' => e = .returned (.int .i64 i) ∧ w' = w) := Lib.hid (fun w => by
        have h := index_p lw w
        rw [hlw, idx_low hib.1 hib.2] at h
        rw [hlw]
        exact h.mono fun _ _ h => ⟨h.1, h.2.symm⟩)
      have HRr := HR2.out.only HO.out (fun q hq h => by
        rcases h with rfl | rfl
        · exact Row.ne HR2.out HG2.out.blk (by decide) hq
        · obtain ⟨D, nn, ⟨es, clock, hm, _⟩, _⟩ := HG2.out.map
          exact Row.neMap HR2.out hm hq)
      rw [← HM.out] at HRr
      obtain ⟨q, o, c', he, hcc⟩ := Row.some_ HRr (by omega)
      injection he with e1 e2 e3
      subst e1 e3
      have hx0 : wr.cell? ⟨q, o + j * 3, none⟩ = some (.int .i64 lw) := Row.cell HRr (j * 3) (encR_at _ j 0 _ hx (by omega))
      have hx1 : wr.cell? ⟨q, o + j * 3 + 1, none⟩ = some (.int .i64 hgh) := Row.cell HRr (j * 3 + 1) (encR_at _ j 1 _ hx (by omega))
      have hx2 : wr.cell? ⟨q, o + j * 3 + 2, none⟩ = some (.int .i64 (c : Int)) := Row.cell HRr (j * 3 + 2) (encR_at _ j 2 _ hx (by omega))
      have HC := Lib.hid hc
      clear hx HRr him hi hcur hlw hhg hcc hjk hc
      go_upto_region 6 with fail
      obtain ⟨W, hW⟩ : ∃ W, W = wr.alloc (.cells #[.int .i64 lw, .int .i64 hgh, .int .i64 (c : Int)] 44) := ⟨_, rfl⟩
      obtain ⟨B, hB⟩ : ∃ B, B = wr.heap.size := ⟨_, rfl⟩
      have hblk : W.heap[B]? = some (.cells #[.int .i64 lw, .int .i64 hgh, .int .i64 (c : Int)] 44 (0, 0)) := by rw [hW, hB]; exact heap_alloc_new wr _
      have y0 : W.cell? ⟨B, 0, none⟩ = some (.int .i64 lw) := cell_at hblk 0 rfl
      have y2 : W.cell? ⟨B, 2, none⟩ = some (.int .i64 (c : Int)) := cell_at hblk 2 rfl
      have HO2 : Hid (Only (fun k => k = g ∨ k = b) w2 W) := by rw [hW]; exact Lib.hid (HO.out.alloc _)
      have HS2 : Hid (HS W g b cur) := by rw [hW]; exact Lib.hid (HS1.out.only ((Only.refl (fun _ => False) wr).alloc _) (fun h => h) (fun h => h))
      have HBB : Hid (B ≠ g ∧ B ≠ b) := by
        have h1 := blk_lt HS1.out.blk
        have h2 := HS1.out.map.lt
        exact Lib.hid ⟨by rw [hB]; exact (Nat.ne_of_lt h1).symm, by rw [hB]; exact (Nat.ne_of_lt h2).symm⟩
      have HBK2 := Lib.hid hblk
      rw [← hW, ← hB]
      clear hW hB hblk hx0 hx1 hx2 HS1 HO
      have hwi : (Lit.int .i64 i).wf = true := wf64 (Int.le_trans (by decide) hib.1) (Int.le_trans hib.2 (by decide))
      obtain ⟨cu, hcu⟩ : ∃ cu, cu = cur.count i := ⟨_, rfl⟩
      have hlk : ∀ m, (Instr.lookup 51 (.map (some b)) (.int .i64 i) false).run Try.prog (W.drewN m) = .ok (.int .i64 (cu : Int)) (W.drewN m) := fun m => by rw [hcu]; exact HS2.out.map.look i hwi m
      have hlk0 : (Instr.lookup 51 (.map (some b)) (.int .i64 i) false).run Try.prog W = .ok (.int .i64 (cu : Int)) W := hlk 0
      have hlk1 : (Instr.lookup 51 (.map (some b)) (.int .i64 i) false).run Try.prog W.drew = .ok (.int .i64 (cu : Int)) W.drew := hlk 1
      have hz0 : W.cell? ⟨g, 0, none⟩ = some (.map (some b)) := cell_at HS2.out.blk 0 rfl
      have hcl2 : cu ≤ 2000 := by rw [hcu]; exact Nat.le_trans List.count_le_length hcl
      obtain ⟨hw1, hw2, hw5⟩ := sum2 cu c (Nat.le_trans hcl2 (by decide)) (Nat.le_trans hc1 (by decide))
      obtain ⟨D, n, hown, hnl, hcs⟩ := HS2.out.map
      have HCS := Lib.hid hcs
      have HMP := Lib.hid hown.isMap
      have HNL := Lib.hid hnl
      have hownd : W.drew.ownsMap Try.prog 3 (plainElem Try.prog 3) b n D := hown
      have hnm : n < maxLen := Nat.lt_of_le_of_lt (Nat.le_trans hnl hcl) (by decide)
      have hpl : plainElem (H := Unit) Try.prog 3 (.int .i64 ((cu : Int) + (c : Int))) = some (.lit (.int .i64 ((cu : Int) + (c : Int))), []) := plain3 hw5
      have hkey : keyOf Try.prog 3 (.int .i64 i) = some (.int .i64 i) := Maps.keyOf_int_mk Try.underlying3 hwi
      have HCU := Lib.hid hcu
      have HC01 : Hid (0 < c ∧ c ≤ 1000) := Lib.hid ⟨hc0, hc1⟩
      have HIB := Lib.hid hib
      have HCL : Hid (cur.length ≤ 2000) := Lib.hid hcl
      obtain ⟨N, hN⟩ : ∃ N, N = cur.length := ⟨_, rfl⟩
      have HNN := Lib.hid hN
      have HBK : Hid (W.heap[g]? = some (.cells #[.map (some b), .int .i64 (N : Int)] 53 (0, 0))) := Lib.hid (by rw [hN]; exact HS2.out.blk)
      obtain ⟨hw3, _, _⟩ := sum2 N c (by rw [hN]; exact Nat.le_trans hcl (by decide)) (Nat.le_trans hc1 (by decide))
      clear hlk hown hnl hcs hcu hc0 hc1 hib hcl hN hcl2 hw5
      go_still_tail 11, (by kernel_rfl)
      repeat still_step
      still_call (HX.out _)
      repeat still_step
      refine wpStill_nil ?_
      change wpList _ _ _ _ _ W.drew
      go_wp2_with (at_mapUpdate; go_loud (refine wpList_mapUpdate_own _ rfl _ _ _ 51 rfl 3 3 law Try.underlying51 _ b n D rfl hownd hnm _ _ (.int .i64 i) rfl rfl hkey _ [] hpl ?_; intro w4 hown4 hgrow4; have HO4 := Lib.hid ((Only.refl (fun k => k = b) W.drew).grown hgrow4 (fun k hk => .inl (by simpa using hk.symm))); have HB4 := Lib.hid (HO4.out.blk HBK.out HNE.out.2.2.1); have HW4 := Lib.hid hown4; have hd1 := cell_at HB4.out 1 rfl; have hf1 := blk_frozen HB4.out 1; have hd2 := cell_at (HO4.out.blk HBK2.out HBB.out.2) 2 rfl; clear hown4 hgrow4))
      go_still_tail 9, (by kernel_rfl)
      repeat still_step
      change wpList _ _ _ _ _ w4.drew
      go_wp2
      go_roundw
      case rel =>
        have hset : Only (fun k => k = g) w4 (w4.setCell ⟨g, 1, none⟩ (.int .i64 ((N : Int) + (c : Int)))) := (Only.refl (fun k => k = g) w4).setCell (p := ⟨g, 1, none⟩) (.inl rfl) _
        have hct : Ct w4 b (cur ++ List.replicate c i) := ⟨_, _, HW4.out, by rw [List.length_append, List.length_replicate]; exact Nat.add_le_add HNL.out HC01.out.1, by
          have := HCS.out.put HMP.out i HIB.out c HC01.out.1
          rw [← HCU.out] at this
          exact this⟩
        refine ⟨j + 1, by go_num, by omega, Lib.hid ?_, Lib.hid ((HO2.out.drew.trans (HO4.out.mono (fun _ h => .inr h))).trans ?_)⟩
        · rw [HNX.out]
          refine ⟨?_, hct.only hset.drew (fun e => HNE.out.2.2.1 e.symm)⟩
          rw [List.length_append, List.length_replicate, ← HNN.out]
          exact blk_set HB4.out 1 (.int .i64 ((N : Int) + (c : Int)))
        · exact hset.drew.mono (fun _ h => .inl h)
      case measure => simp [RowKit.intOf]; omega
    · have hge : ¬ (j : Int) < j := by omega
      have HE : Hid (HS wr g b (is ++ ys)) := Lib.hid (by
        have h1 := HS1.out
        rw [List.take_of_length_le (by have := HM.out; unfold rowsM at this; rw [List.length_map] at this; omega)] at h1
        exact h1.perm (List.Perm.append_left is (runs_perm ys)))
      clear HS1
      go_wp2
      go_ret
      exact ⟨rfl, HE.out, HH2.out.only HO.out (fun h => by rcases h with h | h; exact HNE.out.1 h.symm; exact HNE.out.2.2.2.2 h) (fun h => by rcases h with h | h; exact HNE.out.2.2.2.1 h.symm; exact HNE.out.2.1 h.symm), (HOW.out.mono (fun _ h => .inr (.inr h))).trans (HO.out.mono (fun _ h => by rcases h with h | h; exact .inl h; exact .inr (.inl h)))⟩

end Go.Proofs.Ytognnjhphnhbfaa.Hi

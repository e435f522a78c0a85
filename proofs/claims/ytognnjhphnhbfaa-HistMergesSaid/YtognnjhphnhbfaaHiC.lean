/- Hist: the contracts of its functions: High, none, New, Len, Count, Add. -/
import Derived.Test.YtognnjhphnhbfaaHiK
set_option linter.unusedVariables false
set_option linter.unusedSimpArgs false
namespace Go.Proofs.Ytognnjhphnhbfaa.Hi
open Go.RowKit Go.Maps Go.Proofs.Ytognnjhphnhbfaa.Base Go.Proofs.Ytognnjhphnhbfaa.Rws Go.Proofs.YtognnjhphnhbfaaW.PrintWords Go.Proofs.YtognnjhphnhbfaaW.PrintMore
attribute [local go_sem] max2_mx min2_mn max_two min_two max_three min_three max_four min_four

theorem high_p (i : Int) (w : World) : Calls Try.prog 12 #[.int .i64 i] w fun e w' => e = .returned (.int .i64 (high i)) ∧ w = w' := by
  have HL := Lib.hid (low_p (i + 1))
  by_cases h0 : i < 0
  · have : high i = 0 := by unfold high; rw [if_pos h0]
    rw [this]
    have hd : decide (i < 0) = true := decide_eq_true h0
    clear h0
    go_enter Try.func12, Try.ntmps12
    go_wp2
    go_ret
    exact ⟨rfl, rfl⟩
  by_cases h1 : 1473 ≤ i
  · have : high i = 0 := by unfold high; rw [if_neg h0, if_pos h1]
    rw [this]
    have hd : decide (i < 0) = false := decide_eq_false h0
    have hd1 : decide (1473 ≤ i) = true := decide_eq_true h1
    clear h0 h1
    go_enter Try.func12, Try.ntmps12
    go_wp2
    go_ret
    exact ⟨rfl, rfl⟩
  have hd : decide (i < 0) = false := decide_eq_false h0
  have hd1 : decide (1473 ≤ i) = false := decide_eq_false h1
  have hh : high i = (hi i.toNat : Nat) := by unfold high; rw [if_neg h0, if_neg h1]
  rw [hh]
  by_cases h2 : i = 1472
  · subst h2
    have : ((hi (Int.toNat 1472) : Nat) : Int) = 1125899906842624 := by decide +kernel
    rw [this]
    go_enter Try.func12, Try.ntmps12
    go_wp2
    go_ret
    exact ⟨rfl, rfl⟩
  · have hd2 : (i == 1472) = false := by simp [h2]
    have hw1 : wrap64 (i + 1) = i + 1 := by unfold wrap64; omega
    rw [low_in (by omega) (by omega)] at HL
    have hbd := lo_bd (i := (i + 1).toNat) (by omega)
    have hlu := lo_up i.toNat
    obtain ⟨L, hL⟩ : ∃ L, L = lo (i + 1).toNat := ⟨_, rfl⟩
    have hhi : hi i.toNat = L - 1 := by
      unfold hi
      rw [if_neg (by omega), hL]
      congr 2
      omega
    have hL1 : 1 ≤ L := by
      rw [hL, show (i + 1).toNat = i.toNat + 1 by omega, lo_succ]
      omega
    rw [← hL] at HL hbd
    have hw2 : wrap64 ((L : Int) - 1) = ((L - 1 : Nat) : Int) := by unfold wrap64; omega
    rw [hhi]
    clear h0 h1 h2 hh hL hhi hlu
    go_enter Try.func12, Try.ntmps12
    go_wp2_with (go_at_call 10; refine (HL.out _).mono ?_; rintro e w' ⟨rfl, rfl⟩)
    go_ret
    exact ⟨ret_int (by omega), rfl⟩

theorem eql_map (w : World) (b : Nat) : (binOp .eql 51 (.map (some b)) (.map none)).run Try.prog w = .ok (.bool false) w := by
  have h1 : ∀ d, (Op.equalIn (d + 1) 51 (.map (some b)) (.map none)).run Try.prog w = .ok false w := fun d => by simp [Op.equalIn, run_underlying Try.underlying51]
  have h2 : (Op.equal 51 (.map (some b)) (.map none)).run Try.prog w = .ok false w := h1 9999
  simp [binOp, h2]

theorem none_nil (w : World) : Calls Try.prog 33 #[.pointer none] w fun e w' => e = .returned (.bool true) ∧ w = w' := by
  go_enter Try.func33, Try.ntmps33
  go_wp2
  go_ret
  exact ⟨rfl, rfl⟩

theorem none_p {g b : Nat} {is : List Int} (w : World) (h : HS w g b is) : Calls Try.prog 33 #[.pointer (some ⟨g, 0, none⟩)] w fun e w' => e = .returned (.bool false) ∧ w = w' := by
  have hc0 : w.cell? ⟨g, 0, none⟩ = some (.map (some b)) := cell_at h.blk 0 rfl
  have hem := fun w => eql_map w b
  clear h
  go_enter Try.func33, Try.ntmps33
  go_wp2
  go_ret
  exact ⟨rfl, rfl⟩

theorem new_p (w : World) : Calls Try.prog 31 #[] w fun e w' => e = .returned (.pointer (some ⟨w.heap.size + 1, 0, none⟩)) ∧ HS w' (w.heap.size + 1) w.heap.size [] ∧ Only (fun _ => False) w w' := by
  have hmm := @run_makeMap Try.prog
  go_enter Try.func31, Try.ntmps31
  go_wp2
  go_ret
  have hO : Only (fun _ => False) w (w.alloc (.map #[] 0)) := (Only.refl _ w).alloc _
  have hs : (w.alloc (.map #[] 0)).heap.size = w.heap.size + 1 := by show (w.heap.push _).size = _; simp
  have h1 := heap_alloc_new (w.alloc (.map #[] 0)) (.cells #[.map (some w.heap.size), .int .i64 0] 53)
  rw [hs] at h1
  refine ⟨rfl, ⟨h1, .map [], 0, ((World.ownsMap_made w Try.prog 3 (plainElem Try.prog 3)).alloc _), by simp, fun k hk => by rfl, fun k hk => by simp [has_eq], by simp⟩, hO.alloc _⟩

theorem len_nil (w : World) : Calls Try.prog 20 #[.pointer none] w fun e w' => e = .returned (.int .i64 0) ∧ w = w' := by
  go_enter Try.func20, Try.ntmps20
  go_wp2_with (go_at_call 33; refine (none_nil _).mono ?_; rintro e w' ⟨rfl, rfl⟩)
  go_ret
  exact ⟨rfl, rfl⟩

theorem len_p {g b : Nat} {is : List Int} (w : World) (h : HS w g b is) : Calls Try.prog 20 #[.pointer (some ⟨g, 0, none⟩)] w fun e w' => e = .returned (.int .i64 (is.length : Nat)) ∧ w = w' := by
  have H := Lib.hid h
  have hc1 : w.cell? ⟨g, 1, none⟩ = some (.int .i64 (is.length : Nat)) := cell_at h.blk 1 rfl
  clear h
  go_enter Try.func20, Try.ntmps20
  go_wp2_with (go_at_call 33; refine (none_p _ H.out).mono ?_; rintro e w' ⟨rfl, rfl⟩)
  go_ret
  exact ⟨rfl, rfl⟩

theorem count_nil (i : Int) (w : World) : Calls Try.prog 21 #[.pointer none, .int .i64 i] w fun e w' => e = .returned (.int .i64 0) ∧ w = w' := by
  go_enter Try.func21, Try.ntmps21
  go_wp2_with (go_at_call 33; refine (none_nil _).mono ?_; rintro e w' ⟨rfl, rfl⟩)
  go_ret
  exact ⟨rfl, rfl⟩

theorem count_p {g b : Nat} {is : List Int} (w : World) (h : HS w g b is) (i : Int) (hi : (Lit.int .i64 i).wf = true) : Calls Try.prog 21 #[.pointer (some ⟨g, 0, none⟩), .int .i64 i] w fun e w' => e = .returned (.int .i64 (is.count i : Nat)) ∧ w = w' := by
  have H := Lib.hid h
  have hc0 : w.cell? ⟨g, 0, none⟩ = some (.map (some b)) := cell_at h.blk 0 rfl
  have hlk : (Instr.lookup 51 (.map (some b)) (.int .i64 i) false).run Try.prog w = .ok (.int .i64 (is.count i : Nat)) w := h.map.look i hi 0
  clear h hi
  go_enter Try.func21, Try.ntmps21
  go_wp2_with (go_at_call 33; refine (none_p _ H.out).mono ?_; rintro e w' ⟨rfl, rfl⟩)
  go_ret
  exact ⟨rfl, rfl⟩

theorem add_nil (v : Int) (w : World) : Calls Try.prog 28 #[.pointer none, .int .i64 v] w fun e w' => e = .returned (.int .i64 1) ∧ w = w' := by
  go_enter Try.func28, Try.ntmps28
  go_wp2_with (go_at_call 33; refine (none_nil _).mono ?_; rintro e w' ⟨rfl, rfl⟩)
  go_ret
  exact ⟨rfl, rfl⟩

set_option maxHeartbeats 2000000 in
theorem add_p {g b : Nat} {is : List Int} (w : World) (h : HS w g b is) (v : Int) (hl : is.length ≤ 100000) :
    Calls Try.prog 28 #[.pointer (some ⟨g, 0, none⟩), .int .i64 v] w fun e w' => e = .returned (.int .i64 0) ∧ HS w' g b (is ++ [idx v]) ∧ Only (fun k => k = g ∨ k = b) w w' := by
  have hbd := idx_bd v
  have HX := Lib.hid (index_p v)
  obtain ⟨i, hi⟩ : ∃ i, i = idx v := ⟨_, rfl⟩
  rw [← hi] at hbd HX ⊢
  clear hi
  have hwi : (Lit.int .i64 i).wf = true := wf64 (by omega) (by omega)
  have hgb := h.map.ne h.blk
  have HG := Lib.hid h
  obtain ⟨c, hc⟩ : ∃ c, c = is.count i := ⟨_, rfl⟩
  have hlk : ∀ m, (Instr.lookup 51 (.map (some b)) (.int .i64 i) false).run Try.prog (w.drewN m) = .ok (.int .i64 (c : Int)) (w.drewN m) := fun m => by rw [hc]; exact h.map.look i hwi m
  have hlk0 : (Instr.lookup 51 (.map (some b)) (.int .i64 i) false).run Try.prog w = .ok (.int .i64 (c : Int)) w := hlk 0
  have hlk1 : (Instr.lookup 51 (.map (some b)) (.int .i64 i) false).run Try.prog w.drew = .ok (.int .i64 (c : Int)) w.drew := hlk 1
  have hc0 : w.cell? ⟨g, 0, none⟩ = some (.map (some b)) := cell_at h.blk 0 rfl
  have hcl : c ≤ is.length := by rw [hc]; exact List.count_le_length
  have hw1 : wrap64 ((c : Int) + 1) = (c : Int) + 1 := by unfold wrap64; omega
  have hw2 : IntKind.i64.wrap ((c : Int) + 1) = (c : Int) + 1 := by rw [IntKind.wrap_i64]; omega
  obtain ⟨D, n, hown, hnl, hcs⟩ := h.map
  have HCS := Lib.hid hcs
  have HM := Lib.hid hown.isMap
  have HNL := Lib.hid hnl
  have hownd : w.drew.ownsMap Try.prog 3 (plainElem Try.prog 3) b n D := hown
  have hnm : n < maxLen := by unfold maxLen; omega
  have hpl : plainElem (H := Unit) Try.prog 3 (.int .i64 ((c : Int) + 1)) = some (.lit (.int .i64 ((c : Int) + 1)), []) := plain3 (wf64 (by omega) (by omega))
  have hkey : keyOf Try.prog 3 (.int .i64 i) = some (.int .i64 i) := Maps.keyOf_int_mk Try.underlying3 hwi
  have HC := Lib.hid hc
  have HLL := Lib.hid hl
  have HBD := Lib.hid hbd
  clear h hc hl hlk hown hcs hnl
  obtain ⟨N, hN⟩ : ∃ N, N = is.length := ⟨_, rfl⟩
  have HNN := Lib.hid hN
  have hNl : (N : Int) ≤ 100000 := by have := HLL.out; omega
  have hBk : w.heap[g]? = some (.cells #[.map (some b), .int .i64 (N : Int)] 53 (0, 0)) := by rw [hN]; exact HG.out.blk
  have HBK := Lib.hid hBk
  have hw3 : wrap64 ((N : Int) + 1) = (N : Int) + 1 := by unfold wrap64; omega
  clear hN hBk
  go_enter Try.func28, Try.ntmps28
  go_wp2_with (go_at_call 33; refine (none_p _ HG.out).mono ?_; rintro e w' ⟨rfl, rfl⟩)
  go_still_tail 8, (by kernel_rfl)
  repeat still_step
  still_call ((HX.out _).mono fun _ _ h => ⟨h.1, h.2.symm⟩)
  repeat still_step
  refine wpStill_nil ?_
  change wpList _ _ _ _ _ w.drew
  go_wp2_with (at_mapUpdate; go_loud (refine wpList_mapUpdate_own _ rfl _ _ _ 51 rfl 3 3 law Try.underlying51 _ b n D rfl hownd hnm _ _ (.int .i64 i) rfl rfl hkey _ [] hpl ?_; intro w4 hown4 hgrow4; have HO4 := Lib.hid ((Only.refl (fun k => k = b) w.drew).grown hgrow4 (fun k hk => .inl (by simpa using hk.symm))); have HB4 := Lib.hid (HO4.out.blk HBK.out hgb); have HW4 := Lib.hid hown4; have hd1 := cell_at HB4.out 1 rfl; have hf1 := blk_frozen HB4.out 1; clear hown4 hgrow4))
  go_ret
  have hset : Only (fun k => k = g) w4 (w4.setCell ⟨g, 1, none⟩ (.int .i64 ((N : Int) + 1))) := (Only.refl (fun k => k = g) w4).setCell (p := ⟨g, 1, none⟩) (.inl rfl) _
  have hct : Ct w4 b (is ++ [i]) := ⟨_, _, HW4.out, by have := HNL.out; simp; omega, by
    have := HCS.out.put HM.out i HBD.out 1 (by decide)
    rw [← HC.out] at this
    exact this⟩
  refine ⟨rfl, ⟨?_, hct.only hset (fun e => hgb e.symm)⟩, ((Only.refl (fun k => k = g ∨ k = b) w).drew.trans (HO4.out.mono (fun _ h => .inr h))).trans (hset.mono (fun _ h => .inl h))⟩
  have := blk_set HB4.out 1 (.int .i64 ((N : Int) + 1))
  rw [List.length_append, ← HNN.out]
  exact this

end Go.Proofs.Ytognnjhphnhbfaa.Hi

/- The contracts of seen's functions. -/
import Derived.Test.YtlgibnjhegoefaaSn
set_option linter.unusedVariables false
set_option linter.unusedSimpArgs false
namespace Go.Proofs.Ytlgibnjhegoefaa.Sn
open Go.RowKit Go.Maps Go.Proofs.Ytlgibnjhegoefaa.Base Go.Proofs.YtlgibnjhegoefaaW.PrintWords Go.Proofs.YtlgibnjhegoefaaW.PrintMore
attribute [local go_sem] max2_mx min2_mn max_two min_two max_three min_three max_four min_four

theorem eql_map (w : World) (b : Nat) : (binOp .eql 44 (.map (some b)) (.map none)).run Try.prog w = .ok (.bool false) w := by
  have h1 : ∀ d, (Op.equalIn (d + 1) 44 (.map (some b)) (.map none)).run Try.prog w = .ok false w := fun d => by simp [Op.equalIn, run_underlying Try.underlying44]
  have h2 : (Op.equal 44 (.map (some b)) (.map none)).run Try.prog w = .ok false w := h1 9999
  simp [binOp, h2]

theorem none_nil (w : World) : Calls Try.prog 15 #[.pointer none] w fun e w' => e = .returned (.bool true) ∧ w = w' := by
  go_enter Try.func15, Try.ntmps15
  go_wp2
  go_ret
  exact ⟨rfl, rfl⟩

theorem none_p {g b : Nat} {L : List (K4 × Int)} (w : World) (h : SS w g b L) : Calls Try.prog 15 #[.pointer (some ⟨g, 0, none⟩)] w fun e w' => e = .returned (.bool false) ∧ w = w' := by
  have hc0 : w.cell? ⟨g, 0, none⟩ = some (.map (some b)) := cell_at h.blk 0 rfl
  have hem := fun w => eql_map w b
  clear h
  go_enter Try.func15, Try.ntmps15
  go_wp2
  go_ret
  exact ⟨rfl, rfl⟩

theorem new_p (w : World) : Calls Try.prog 7 #[] w fun e w' => e = .returned (.pointer (some ⟨w.heap.size + 1, 0, none⟩)) ∧ SS w' (w.heap.size + 1) w.heap.size [] ∧ Only (fun _ => False) w w' := by
  have hmm := @run_makeMap Try.prog
  go_enter Try.func7, Try.ntmps7
  go_wp2
  go_ret
  have hO : Only (fun _ => False) w (w.alloc (.map #[] 0)) := (Only.refl _ w).alloc _
  have hs : (w.alloc (.map #[] 0)).heap.size = w.heap.size + 1 := by show (w.heap.push _).size = _; simp
  have h1 := heap_alloc_new (w.alloc (.map #[] 0)) (.cells #[.map (some w.heap.size)] 46)
  rw [hs] at h1
  refine ⟨rfl, ⟨h1, tight ((World.ownsMap_made w Try.prog 25 (plainElem Try.prog 3)).alloc _) Holds.empty⟩, hO.alloc _⟩

/-- Is the key kept? -/
def kept (L : List (K4 × Int)) (k : K4) : Bool := L.any (fun p => decide (p.1 = k))

theorem look {w : World} {b : Nat} {L : List (K4 × Int)} (h : SM w b L) (k : K4) (hk : k.wf) :
    ∃ c : Int, ∀ m, (Instr.lookup 44 (.map (some b)) (.agg #[.int .i64 k.a, .int .i64 k.b, .int .i64 k.c, .int .i64 k.d]) true).run Try.prog (w.drewN m) = .ok (.tuple #[.int .i64 c, .bool (kept L k)]) (w.drewN m) := by
  obtain ⟨D, ho, hh⟩ := h
  have hz : ∀ W : World, (zeroValue 3).run Try.prog W = .ok (.int .i64 0) W := fun W => by kernel_rfl
  have hl : ∀ m, ∃ c : Int, (Instr.lookup 44 (.map (some b)) (.agg #[.int .i64 k.a, .int .i64 k.b, .int .i64 k.c, .int .i64 k.d]) true).run Try.prog (w.drewN m) = .ok (.tuple #[.int .i64 c, .bool (kept L k)]) (w.drewN m) ∧ D.atKey k.l (.lit (.int .i64 0)) = .lit (.int .i64 c) := fun m => by
    have ho' : (w.drewN m).ownsMap Try.prog 25 (plainElem Try.prog 3) b L.length D := ho
    obtain ⟨v, ps, hr, hv⟩ := ho'.look_ok law Try.underlying44 (hz _) (plain3 (by decide)) (key_of k hk)
    obtain ⟨c, rfl, hc, _⟩ := plainElem_int_inv Try.underlying3 hv
    rw [hh.has k hk] at hr
    exact ⟨c, hr, congrArg Prod.fst hc⟩
  obtain ⟨c, _, hc⟩ := hl 0
  refine ⟨c, fun m => ?_⟩
  obtain ⟨c', hr, hc'⟩ := hl m
  rw [hc] at hc'
  injection hc' with hc'
  injection hc' with _ hc'
  subst hc'
  exact hr

theorem len_run {w : World} {b : Nat} {L : List (K4 × Int)} (h : SM w b L) (ty : TypeId) : (Builtin.len_ #[44] ty #[.map (some b)]).run Try.prog w = .ok (.int .i64 (L.length : Int)) w := by
  obtain ⟨D, ho, hh⟩ := h
  rw [ho.len Try.underlying44 ty, hh.size]

theorem len_nil (w : World) : Calls Try.prog 10 #[.pointer none] w fun e w' => e = .returned (.int .i64 0) ∧ w = w' := by
  go_enter Try.func10, Try.ntmps10
  go_wp2_with (go_at_call 15; refine (none_nil _).mono ?_; rintro e w' ⟨rfl, rfl⟩)
  go_ret
  exact ⟨rfl, rfl⟩

theorem len_p {g b : Nat} {L : List (K4 × Int)} (w : World) (h : SS w g b L) : Calls Try.prog 10 #[.pointer (some ⟨g, 0, none⟩)] w fun e w' => e = .returned (.int .i64 (L.length : Int)) ∧ w = w' := by
  have H := Lib.hid h
  have hc0 : w.cell? ⟨g, 0, none⟩ = some (.map (some b)) := cell_at h.blk 0 rfl
  have hlen := len_run h.map
  clear h
  go_enter Try.func10, Try.ntmps10
  go_wp2_with (go_at_call 15; refine (none_p _ H.out).mono ?_; rintro e w' ⟨rfl, rfl⟩)
  go_ret
  exact ⟨rfl, rfl⟩

theorem has_nil (k : K4) (w : World) : Calls Try.prog 13 #[.pointer none, k.v] w fun e w' => e = .returned (.bool true) ∧ Only (fun _ => False) w w' := by
  unfold K4.v
  go_enter Try.func13, Try.ntmps13
  go_wp2_with (go_at_call 15; refine (none_nil _).mono ?_; rintro e w' ⟨rfl, rfl⟩)
  go_ret
  exact ⟨rfl, (Only.refl _ w).alloc _⟩

set_option maxHeartbeats 1000000 in
theorem has_p {g b : Nat} {L : List (K4 × Int)} (w : World) (h : SS w g b L) (k : K4) (hk : k.wf) : Calls Try.prog 13 #[.pointer (some ⟨g, 0, none⟩), k.v] w fun e w' => e = .returned (.bool (kept L k)) ∧ Only (fun _ => False) w w' := by
  have HO : Hid (Only (fun _ => False) w (w.alloc (.cells #[.int .i64 k.a, .int .i64 k.b, .int .i64 k.c, .int .i64 k.d] 25))) := Lib.hid ((Only.refl _ w).alloc _)
  have H1 := Lib.hid (h.only HO.out (fun h => h) (fun h => h))
  have HK := Lib.hid (heap_alloc_new w (.cells #[.int .i64 k.a, .int .i64 k.b, .int .i64 k.c, .int .i64 k.d] 25))
  obtain ⟨c, hlk⟩ := look H1.out.map k hk
  clear h
  unfold K4.v
  go_enter Try.func13, Try.ntmps13
  go_wp2_with fail
  generalize w.alloc (.cells #[.int .i64 k.a, .int .i64 k.b, .int .i64 k.c, .int .i64 k.d] 25) = w1 at *
  generalize w.heap.size = q at *
  have hk0 : w1.cell? ⟨q, 0, none⟩ = some (.int .i64 k.a) := cell_at HK.out 0 rfl
  have hk1 : w1.cell? ⟨q, 1, none⟩ = some (.int .i64 k.b) := cell_at HK.out 1 rfl
  have hk2 : w1.cell? ⟨q, 2, none⟩ = some (.int .i64 k.c) := cell_at HK.out 2 rfl
  have hk3 : w1.cell? ⟨q, 3, none⟩ = some (.int .i64 k.d) := cell_at HK.out 3 rfl
  have hc0 : w1.cell? ⟨g, 0, none⟩ = some (.map (some b)) := cell_at H1.out.blk 0 rfl
  go_wp2_with (go_at_call 15; refine (none_p _ H1.out).mono ?_; rintro e w' ⟨rfl, rfl⟩)
  go_quiet (fail)
  go_wp2
  go_ret
  exact ⟨rfl, HO.out.drewN _⟩

/-- What a mark answers, and leaves. -/
def markL (L : List (K4 × Int)) (k : K4) (u n : Int) : Bool × List (K4 × Int) :=
  if kept (L.filter (fun p => decide (cl n < p.2))) k = true ∨ cl u ≤ cl n ∨ 512 ≤ (L.filter (fun p => decide (cl n < p.2))).length then (false, L.filter (fun p => decide (cl n < p.2)))
  else (true, L.filter (fun p => decide (cl n < p.2)) ++ [(k, cl u)])

theorem mark_nil (k : K4) (u n : Int) (w : World) : Calls Try.prog 9 #[.pointer none, k.v, .int .i64 u, .int .i64 n] w fun e w' => e = .returned (.bool false) ∧ Only (fun _ => False) w w' := by
  unfold K4.v
  go_enter Try.func9, Try.ntmps9
  go_wp2_with (go_at_call 15; refine (none_nil _).mono ?_; rintro e w' ⟨rfl, rfl⟩)
  go_ret
  exact ⟨rfl, (Only.refl _ w).alloc _⟩

set_option maxHeartbeats 2000000 in
theorem mark_p {g b : Nat} {L : List (K4 × Int)} (w : World) (h : SS w g b L) (k : K4) (hk : k.wf) (u n : Int) (hL : L.length ≤ 1000) :
    Calls Try.prog 9 #[.pointer (some ⟨g, 0, none⟩), k.v, .int .i64 u, .int .i64 n] w fun e w' => e = .returned (.bool (markL L k u n).1) ∧ SS w' g b (markL L k u n).2 ∧ Only (fun k => k = b) w w' := by
  have hgb := h.map.ne h.blk
  have hqb : w.heap.size ≠ b := by have := h.map.lt; omega
  have HO : Hid (Only (fun k => k = b) w (w.alloc (.cells #[.int .i64 k.a, .int .i64 k.b, .int .i64 k.c, .int .i64 k.d] 25))) := Lib.hid ((Only.refl _ w).alloc _)
  have H1 : Hid (SS (w.alloc (.cells #[.int .i64 k.a, .int .i64 k.b, .int .i64 k.c, .int .i64 k.d] 25)) g b L) := Lib.hid (h.only (S := fun _ => False) ((Only.refl _ w).alloc _) (fun h => h) (fun h => h))
  have HK := Lib.hid (heap_alloc_new w (.cells #[.int .i64 k.a, .int .i64 k.b, .int .i64 k.c, .int .i64 k.d] 25))
  have HF : Hid ((L.filter (fun p => decide (cl n < p.2))).length ≤ 1000) := Lib.hid (Nat.le_trans (List.length_filter_le _ _) hL)
  have HKW := Lib.hid hk
  clear h hk hL
  have HP : Hid (kept (L.filter (fun p => decide (cl n < p.2))) k = true ∨ cl u ≤ cl n ∨ 512 ≤ (L.filter (fun p => decide (cl n < p.2))).length → markL L k u n = (false, L.filter (fun p => decide (cl n < p.2)))) := Lib.hid (fun h => if_pos h)
  have HN : Hid (¬ (kept (L.filter (fun p => decide (cl n < p.2))) k = true ∨ cl u ≤ cl n ∨ 512 ≤ (L.filter (fun p => decide (cl n < p.2))).length) → markL L k u n = (true, L.filter (fun p => decide (cl n < p.2)) ++ [(k, cl u)])) := Lib.hid (fun h => if_neg h)
  generalize markL L k u n = M at *
  have hbd := cl_bounds u
  have HCU := Lib.hid (clamp_p u)
  have HCN := Lib.hid (clamp_p n)
  generalize cl n = n' at *
  generalize cl u = u' at *
  unfold K4.v
  go_enter Try.func9, Try.ntmps9
  go_wp2_with fail
  generalize w.alloc (.cells #[.int .i64 k.a, .int .i64 k.b, .int .i64 k.c, .int .i64 k.d] 25) = w1 at *
  generalize w.heap.size = q at *
  go_wp2_with (first | (go_at_call 15; refine (none_p _ H1.out).mono ?_; rintro e w' ⟨rfl, rfl⟩) | (go_at_call 16; with_reducible refine (HCN.out _).mono ?_; rintro e w' ⟨rfl, rfl⟩) | (go_at_call 16; with_reducible refine (HCU.out _).mono ?_; rintro e w' ⟨rfl, rfl⟩) | (go_at_call 17; refine (sweep_p g b L n' _ H1.out).mono ?_; rintro e w2 ⟨rfl, hs2, ho2⟩; have H2 := Lib.hid hs2; have HO2 := Lib.hid (HO.out.trans ho2); have HK2 := Lib.hid (ho2.blk HK.out hqb); clear hs2 ho2))
  generalize L.filter (fun p => decide (n' < p.2)) = L1 at *
  obtain ⟨c, hlk⟩ := look H2.out.map k HKW.out
  have hk0 : w2.cell? ⟨q, 0, none⟩ = some (.int .i64 k.a) := cell_at HK2.out 0 rfl
  have hk1 : w2.cell? ⟨q, 1, none⟩ = some (.int .i64 k.b) := cell_at HK2.out 1 rfl
  have hk2 : w2.cell? ⟨q, 2, none⟩ = some (.int .i64 k.c) := cell_at HK2.out 2 rfl
  have hk3 : w2.cell? ⟨q, 3, none⟩ = some (.int .i64 k.d) := cell_at HK2.out 3 rfl
  have hc0 : w2.cell? ⟨g, 0, none⟩ = some (.map (some b)) := cell_at H2.out.blk 0 rfl
  go_quiet (fail)
  have H3 : Hid (SS (w2.drewN nq) g b L1) := Lib.hid ⟨H2.out.blk, H2.out.map⟩
  have HO3 : Hid (Only (fun k => k = b) w (w2.drewN nq)) := Lib.hid (HO2.out.drewN _)
  have HK3 : Hid ((w2.drewN nq).heap[q]? = some (.cells #[.int .i64 k.a, .int .i64 k.b, .int .i64 k.c, .int .i64 k.d] 25 (0, 0))) := Lib.hid HK2.out
  generalize w2.drewN nq = w3 at *
  clear hk0 hk1 hk2 hk3 hc0 hlk
  obtain ⟨m, hm⟩ : ∃ m, m = L1.length := ⟨_, rfl⟩
  have hlen := len_run H3.out.map
  rw [← hm] at hlen
  have HM := Lib.hid hm
  have hm0 : m ≤ 1000 := by have := HF.out; omega
  have hk0 : w3.cell? ⟨q, 0, none⟩ = some (.int .i64 k.a) := cell_at HK3.out 0 rfl
  have hk1 : w3.cell? ⟨q, 1, none⟩ = some (.int .i64 k.b) := cell_at HK3.out 1 rfl
  have hk2 : w3.cell? ⟨q, 2, none⟩ = some (.int .i64 k.c) := cell_at HK3.out 2 rfl
  have hk3 : w3.cell? ⟨q, 3, none⟩ = some (.int .i64 k.d) := cell_at HK3.out 3 rfl
  have hc0 : w3.cell? ⟨g, 0, none⟩ = some (.map (some b)) := cell_at H3.out.blk 0 rfl
  clear hm
  obtain ⟨ha, hha⟩ : ∃ ha, ha = kept L1 k := ⟨_, rfl⟩
  rw [← hha]
  have HA := Lib.hid hha
  clear hha
  cases ha
  · by_cases hun : u' ≤ n'
    · have HE : Hid (M = (false, L1)) := Lib.hid (HP.out (.inr (.inl hun)))
      go_wp2
      go_ret
      rw [HE.out]
      exact ⟨rfl, H3.out, HO3.out⟩
    · by_cases hfull : 512 ≤ m
      · have hfull' : (512 : Int) ≤ m := by omega
        have HE : Hid (M = (false, L1)) := Lib.hid (HP.out (.inr (.inr (by rw [← HM.out]; exact hfull))))
        go_wp2
        go_ret
        rw [HE.out]
        exact ⟨rfl, H3.out, HO3.out⟩
      · have hfull' : ¬ (512 : Int) ≤ m := by omega
        have HE : Hid (M = (true, L1 ++ [(k, u')])) := Lib.hid (HN.out (by
          rintro (h | h | h)
          · rw [← HA.out] at h
            cases h
          · exact hun h
          · exact hfull (by rw [HM.out]; exact h)))
        obtain ⟨D, hown, hh⟩ := H3.out.map
        have HH := Lib.hid hh
        have hwu : (Lit.int .i64 u').wf = true := WalkArith.wf_i64 (by omega)
        have hks : keyOf Try.prog 25 (.agg #[.int .i64 k.a, .int .i64 k.b, .int .i64 k.c, .int .i64 k.d]) = some k.l := key_of k HKW.out
        have hnl : L1.length < maxLen := by unfold maxLen; rw [← HM.out]; omega
        have hownd : w3.drew.ownsMap Try.prog 25 (plainElem Try.prog 3) b L1.length D := hown
        have hpl := plain3 hwu
        clear hh hown
        go_wp2
        go_still_tail 6, (by kernel_rfl)
        repeat still_step
        change wpList _ _ _ _ _ w3.drew
        go_wp2_with (at_mapUpdate; go_loud (refine wpList_mapUpdate_own _ rfl _ _ _ 44 rfl 25 3 law Try.underlying44 _ b L1.length D rfl hownd hnl _ _ k.l rfl rfl hks _ [] hpl ?_; intro w4 hown4 hgrow4))
        go_ret
        rw [HE.out]
        have hO4 : Only (fun k => k = b) w w4 := (HO3.out.drew).grown hgrow4 (fun k hk => .inl (by simpa using hk.symm))
        exact ⟨rfl, ⟨((Only.refl (fun k => k = b) w3.drew).grown hgrow4 (fun k hk => .inl (by simpa using hk.symm))).blk H3.out.blk hgb, tight hown4 (HH.out.put k HKW.out hwu HA.out.symm)⟩, hO4⟩
  · have HE : Hid (M = (false, L1)) := Lib.hid (HP.out (.inl HA.out.symm))
    go_wp2
    go_ret
    rw [HE.out]
    exact ⟨rfl, H3.out, HO3.out⟩

end Go.Proofs.Ytlgibnjhegoefaa.Sn

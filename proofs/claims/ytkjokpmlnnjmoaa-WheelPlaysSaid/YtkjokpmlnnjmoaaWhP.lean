/- Wheel: put. -/
import Derived.Test.YtkjokpmlnnjmoaaWhS
import Derived.Deep.RegionLaw
import Derived.Deep.AppendLies
import Derived.Lib.SlFresh
set_option linter.unusedVariables false
set_option linter.unusedSimpArgs false
namespace Go.Proofs.Ytkjokpmlnnjmoaa.Wh
open Go.RowKit Go.Maps Go.Proofs.Ytkjokpmlnnjmoaa.Base Go.Proofs.Ytkjokpmlnnjmoaa.Rws Go.Proofs.YtkjokpmlnnjmoaaW.PrintWords Go.Proofs.YtkjokpmlnnjmoaaW.PrintMore
attribute [local go_sem] max2_mx min2_mn max_two min_two max_three min_three max_four min_four

/-- What a call leaves of the wheel: its own blocks, and new ones. -/
def PostW (w : World) (g b : Nat) (F : Nat → Prop) (n last : Int) (L : List Tm) (rows : Nat → List Int) (w' : World) : Prop :=
  ∃ F' vals', WS w' g b F' n last L vals' rows ∧ (∀ k, F' k → F k ∨ w.heap.size ≤ k) ∧ Only F w w'

theorem only_new {w w1 : World} {S : Nat → Prop} (h : Only (fun k => w.heap.size ≤ k) w w1) : Only S w w1 := ⟨h.os, h.tape, h.output, h.size, fun i hi _ => h.block i hi (by omega)⟩

theorem place_four {n x : Int} (h : (place n x).1 = 4) : (place n x).2 = 0 := by
  unfold place at h ⊢
  by_cases h1 : x ≤ n
  · rw [if_pos h1] at h; simp at h
  rw [if_neg h1] at h ⊢
  by_cases h2 : n / 64 = x / 64
  · rw [if_pos h2] at h; simp at h
  rw [if_neg h2] at h ⊢
  by_cases h3 : n / 4096 = x / 4096
  · rw [if_pos h3] at h; simp at h
  rw [if_neg h3] at h ⊢
  by_cases h4 : n / 262144 = x / 262144
  · rw [if_pos h4] at h; simp at h
  rw [if_neg h4] at h ⊢
  by_cases h5 : n / 16777216 = x / 16777216
  · rw [if_pos h5] at h; simp at h
  rw [if_neg h5]

set_option maxHeartbeats 4000000 in
set_option maxRecDepth 100000 in
theorem put_p {w : World} {g b : Nat} {F : Nat → Prop} {n last : Int} {L : List Tm} {vals : Nat → Value} {rows : Nat → List Int} (hs : WS w g b F n last L vals rows) (t : Tm) (hn : cl n = n) (ht : cl t.at_ = t.at_) (hh : (Lit.int .i64 t.h).wf = true) (hl : ∀ i, (rows i).length ≤ 10000) (hL : L.length ≤ 10000) :
    Calls Try.prog 23 #[.pointer (some ⟨g, 0, none⟩), t.v] w fun e w' => e = .returned (.tuple #[]) ∧ PostW w g b F n last (putL n L t) (putRows n rows t) w' := by
  obtain ⟨a, h, l, s⟩ := t
  unfold Tm.v
  simp only at ht hh ⊢
  have HS := Lib.hid hs
  have HP : Hid (∀ w, Calls Try.prog 39 #[.int .i64 n, .int .i64 a] w fun e w' => e = .returned (.tuple #[.int .i64 (place n a).1, .int .i64 (place n a).2]) ∧ w' = w) := Lib.hid (fun w => by
    have h := place_p n a w
    rw [hn, ht] at h
    exact h.mono fun _ _ h => ⟨h.1, h.2.symm⟩)
  have HPB : Hid (((place n a).1 = 4 ∧ (place n a).2 = 0) ∨ (0 ≤ (place n a).1 ∧ (place n a).1 ≤ 3 ∧ 0 ≤ (place n a).2 ∧ (place n a).2 < 64)) := by
    have h1 := place_bd n a
    by_cases h4 : (place n a).1 = 4
    · exact Lib.hid (.inl ⟨h4, place_four h4⟩)
    · exact Lib.hid (.inr (by omega))
  have HIX := Lib.hid (ix_lt n a)
  obtain ⟨l1, hl1⟩ : ∃ x, x = (place n a).1 := ⟨_, rfl⟩
  obtain ⟨s1, hs1⟩ : ∃ x, x = (place n a).2 := ⟨_, rfl⟩
  rw [← hl1, ← hs1] at HP HPB HIX
  have HL1 := Lib.hid hl1
  have HS1 := Lib.hid hs1
  have HH := Lib.hid hh
  have HLL := Lib.hid hl
  have HLL2 := Lib.hid hL
  obtain ⟨w0, hw0⟩ : ∃ w0, w0 = w.alloc (.cells #[.int .i64 a, .int .i64 h, .int .i64 l, .int .i64 s] 60) := ⟨_, rfl⟩
  have hO : Only (fun _ => False) w w0 := by rw [hw0]; exact (Only.refl _ w).alloc _
  obtain ⟨B, hB⟩ : ∃ B, B = w.heap.size := ⟨_, rfl⟩
  have hblk : w0.heap[B]? = some (.cells #[.int .i64 a, .int .i64 h, .int .i64 l, .int .i64 s] 60 (0, 0)) := by rw [hw0, hB]; exact heap_alloc_new w _
  have hs0 := hs.only hO (fun _ _ h => h)
  have z0 := hs0.blk.now
  have y0 : w0.cell? ⟨B, 0, none⟩ = some (.int .i64 a) := cell_at hblk 0 rfl
  have y2 : w0.cell? ⟨B, 2, none⟩ = some (.int .i64 l) := cell_at hblk 2 rfl
  have y3 : w0.cell? ⟨B, 3, none⟩ = some (.int .i64 s) := cell_at hblk 3 rfl
  have f2 : w0.frozen? ⟨B, 2, none⟩ = false := blk_frozen hblk 2
  have f3 : w0.frozen? ⟨B, 3, none⟩ = false := blk_frozen hblk 3
  have HBK := Lib.hid hblk
  have HO := Lib.hid hO
  have H0 := Lib.hid hs0
  clear hs hn ht hl hL hh hl1 hs1 hblk hO hs0
  go_enter Try.func23, Try.ntmps23
  go_wp2
  rw [← hw0, ← hB]
  clear hw0
  have HB := Lib.hid hB
  clear hB
  obtain ⟨W1, hW1⟩ : ∃ W1, W1 = w0.setCell ⟨B, 2, none⟩ (.int .i64 l1) := ⟨_, rfl⟩
  obtain ⟨W2, hW2⟩ : ∃ W2, W2 = W1.setCell ⟨B, 3, none⟩ (.int .i64 s1) := ⟨_, rfl⟩
  have hb1 : W1.heap[B]? = some (.cells #[.int .i64 a, .int .i64 h, .int .i64 l1, .int .i64 s] 60 (0, 0)) := by rw [hW1]; exact blk_set HBK.out 2 _
  have hb2 : W2.heap[B]? = some (.cells #[.int .i64 a, .int .i64 h, .int .i64 l1, .int .i64 s1] 60 (0, 0)) := by rw [hW2]; exact blk_set hb1 3 _
  have hnB : ∀ i, F i → ¬ i = B := fun i hi e => by have := HS.out.flt i hi; rw [e, HB.out] at this; omega
  have ho1 : Only (fun k => k = B) w0 W1 := by rw [hW1]; exact (Only.refl (fun k => k = B) w0).setCell (p := ⟨B, 2, none⟩) (.inl rfl) _
  have ho2 : Only (fun k => k = B) w0 W2 := by rw [hW2]; exact ho1.setCell (p := ⟨B, 3, none⟩) (.inl rfl) _
  have h1s := H0.out.only ho1 hnB
  have h2s := H0.out.only ho2 hnB
  have z1 := h1s.blk.now
  have z2 := h2s.blk.now
  have y1 : W1.cell? ⟨B, 0, none⟩ = some (.int .i64 a) := cell_at hb1 0 rfl
  have y20 : W2.cell? ⟨B, 0, none⟩ = some (.int .i64 a) := cell_at hb2 0 rfl
  have u3 : W1.cell? ⟨B, 3, none⟩ = some (.int .i64 s) := cell_at hb1 3 rfl
  have v3 : W1.frozen? ⟨B, 3, none⟩ = false := blk_frozen hb1 3
  have H2 := Lib.hid h2s
  have HK2 := Lib.hid hb2
  have HO2 : Hid (Only (fun k => w.heap.size ≤ k) w W2) := Lib.hid ((HO.out.mono (fun _ h => h.elim)).trans (ho2.mono (fun k hk => by rw [hk, HB.out]; exact Nat.le_refl _)))
  rw [hW1] at z1 y1 u3 v3 hW2
  rw [hW2] at z2 y20
  clear hb1 hb2 hnB ho1 ho2 h1s h2s hW1
  go_region_held3 (fun w' => w'.cell? ⟨g, 0, none⟩ = some (.int .i64 n) ∧ w'.cell? ⟨B, 0, none⟩ = some (.int .i64 a)) (first | exact ⟨z0, y0⟩ | exact ⟨z1, y1⟩ | exact ⟨z2, y20⟩) (first | (go_at_call 39; refine (HP.out _).mono ?_; rintro e w' ⟨rfl, rfl⟩))
  rw [← hW2]
  clear z0 z1 z2 y0 y1 y2 y3 f2 f3 u3 v3 y20 hW2
  obtain ⟨w3, hw3⟩ : ∃ w3, w3 = W2.drew := ⟨_, rfl⟩
  have H3 : Hid (WS w3 g b F n last L vals rows) := by rw [hw3]; exact Lib.hid (H2.out.only ((Only.refl (fun _ => False) W2).drew) (fun _ _ h => h))
  have HK3 : Hid (w3.heap[B]? = some (.cells #[.int .i64 a, .int .i64 h, .int .i64 l1, .int .i64 s1] 60 (0, 0))) := by rw [hw3]; exact HK2
  have HO3 : Hid (Only (fun k => w.heap.size ≤ k) w w3) := by rw [hw3]; exact Lib.hid HO2.out.drew
  rw [← hw3]
  clear hw3 H2 HK2 HO2
  have c0 := cell_at HK3.out 0 rfl
  have c1 := cell_at HK3.out 1 rfl
  have c2 := cell_at HK3.out 2 rfl
  have c3 := cell_at HK3.out 3 rfl
  have HLI := Lib.hid (list_p g ⟨a, h, l1, s1⟩ w3 HPB.out)
  obtain ⟨X, hX⟩ : ∃ X, X = (⟨a, h, l1, s1⟩ : Tm).ix := ⟨_, rfl⟩
  rw [← hX] at HLI
  have HX := Lib.hid hX
  have HXL : Hid (X < 257) := by rw [hX]; exact HIX
  clear hX
  go_wp2_with (go_at_call 30; refine HLI.out.mono ?_; rintro e w5 ⟨rfl, o5⟩; have O5 := Lib.hid o5; clear o5)
  have HS5 := Lib.hid (H3.out.only O5.out (fun _ _ h => h))
  have HK5 := Lib.hid (O5.out.blk HK3.out (fun h => h))
  have HO5 := Lib.hid (HO3.out.trans (O5.out.mono (fun _ h => h.elim)))
  clear c0 c1 c2 c3 H3 HK3 HO3 O5 HLI
  have x5 := HS5.out.blk.val X HXL.out
  have d1 := cell_at HK5.out 1 rfl
  obtain ⟨V, hV⟩ : ∃ V, V = vals X := ⟨_, rfl⟩
  have HV := Lib.hid hV
  rw [← hV] at x5
  have hKs : Ks w5 (fun k => V.ownBlock = some k ∨ w5.heap.size ≤ k) V (rows X) := by
    have h1 := HS5.out.row X HXL.out
    rw [← hV] at h1
    exact Row.to h1 (fun k hk => .inl hk)
  have HKS := Lib.hid hKs
  obtain ⟨v6, w6, hr6, k6, o6⟩ := Ks.app (W := w5.drew) (P := fun k => V.ownBlock = some k ∨ w5.heap.size ≤ k) (by exact hKs) (fun k hk => .inr hk) (Nat.le_trans (HLL.out X) (by decide)) h 22
  obtain ⟨A6, c6, rfl, _⟩ := k6.form
  obtain ⟨D6, hD6⟩ : ∃ D6, D6 = (rows X ++ [h]).length := ⟨_, rfl⟩
  rw [← hD6] at hr6 k6
  have HD6 := Lib.hid hD6
  clear hD6
  have hr6' : (Builtin.append_ #[22, 22] 22 #[V, .slice (some ⟨w5.heap.size, 0, none⟩) 1 1]).run Try.prog (w5.alloc (.cells #[.int .i64 h] 3)).drew = .ok (.slice A6 D6 c6) w6 := hr6
  have oa : Only (fun _ => False) w5 (w5.alloc (.cells #[.int .i64 h] 3)).drew := ((Only.refl _ w5).alloc _).drew
  have hsa := HS5.out.only oa (fun _ _ h => h)
  have xa := hsa.blk.val X HXL.out
  rw [← hV] at xa
  have da := cell_at (oa.blk HK5.out (fun h => h)) 1 rfl
  have hng : ¬ V.ownBlock = some g := by
    obtain ⟨cs, hcs⟩ := HS5.out.blk.isBlk
    exact Ks.ne hKs hcs
  have hb6 : WB w6 g b n last vals := HS5.out.blk.only (w' := w6) (S := fun k => V.ownBlock = some k) (by exact (Only.refl _ w5).drew.trans o6) hng
  have x6 := hb6.val X HXL.out
  rw [← hV] at x6
  have f6 := hb6.frozen (2 + X)
  have HB6 := Lib.hid hb6
  have K6 := Lib.hid k6
  have O6 : Hid (Only (fun k => V.ownBlock = some k) w5 w6) := Lib.hid ((Only.refl _ w5).drew.trans o6)
  clear hKs hr6 oa hsa hng hb6 k6 o6 hV
  obtain ⟨w7, hw7⟩ : ∃ w7, w7 = w6.setCell ⟨g, 2 + X, none⟩ (.slice A6 D6 c6) := ⟨_, rfl⟩
  have HFX : Hid (F g ∧ F b) := Lib.hid ⟨HS.out.fg, HS.out.fb⟩
  have og : Only (fun k => k = g) w6 w7 := by rw [hw7]; exact (Only.refl (fun k => k = g) w6).setCell (p := ⟨g, 2 + X, none⟩) (.inl rfl) _
  have hVF : ∀ k, V.ownBlock = some k → F k := fun k hk => by
    rw [HV.out] at hk
    exact (Row.own (HS5.out.row X HXL.out) hk).1
  have ofw : Only F w w7 := ((only_new HO5.out).then_ O6.out (fun k hk => .inl (hVF k hk))).then_ og (fun k hk => .inl (by rw [hk]; exact HFX.out.1))
  obtain ⟨cs6, hcs6⟩ := HB6.out.isBlk
  obtain ⟨esm, clm, hmb⟩ := HS5.out.map.isMap
  have hgb : g ≠ b := by obtain ⟨cs5, hcs5⟩ := HS5.out.blk.isBlk; exact HS5.out.map.ne hcs5
  have hb7 : WB w7 g b n last (upd vals X (.slice A6 D6 c6)) := by rw [hw7]; exact HB6.out.set X HXL.out _
  have hVb : V.ownBlock ≠ some b := by have h1 := HS5.out.row X HXL.out; rw [← HV.out] at h1; exact Row.neMap h1 hmb
  have hm7 : TM w7 b L := (HS5.out.map.only O6.out (fun h => hVb h)).only og (fun h => hgb h.symm)
  have hk7 : w7.heap[B]? = some (.cells #[.int .i64 a, .int .i64 h, .int .i64 l1, .int .i64 s1] 60 (0, 0)) := by
    refine og.blk (O6.out.blk HK5.out (fun h1 => ?_)) (fun e => ?_)
    · have h2 := HKS.out
      exact Ks.ne h2 HK5.out (by decide) h1
    · rw [← e] at hcs6
      have := O6.out.blk HK5.out (fun h1 => Ks.ne HKS.out HK5.out (by decide) h1)
      rw [this] at hcs6
      cases hcs6
  have hsz5 : w.heap.size ≤ w5.heap.size := HO5.out.size
  have hsz67 : w6.heap.size ≤ w7.heap.size := og.size
  have hsz56 : w5.heap.size ≤ w6.heap.size := O6.out.size
  have hr7 : ∀ i, i < 257 → Ks w7 (fun k => F k ∨ (w.heap.size ≤ k ∧ k < w7.heap.size)) (upd vals X (.slice A6 D6 c6) i) (upd rows X (rows X ++ [h]) i) := fun i hi => by
    by_cases e : i = X
    · subst e
      rw [upd_same, upd_same]
      have h1 := Row.only K6.out og (fun q hq e => Ks.ne K6.out hcs6 (by decide) (by rw [hq, e]))
      refine Row.to (Q := fun k => F k ∨ (w.heap.size ≤ k ∧ k < w7.heap.size)) h1 (fun k hk => ?_)
      have h2 := Row.own h1 hk
      rcases h2.1 with h3 | h3
      · exact .inl (hVF k h3)
      · exact .inr ⟨Nat.le_trans hsz5 h3, h2.2⟩
    · rw [upd_other _ _ e, upd_other _ _ e]
      have h0 := HS5.out.row i hi
      have h1 := Row.only (Row.only h0 O6.out (fun q hq h3 => HS5.out.ap i hi X HXL.out e q hq (by rw [← HV.out]; exact h3))) og (fun q hq e2 => by
        obtain ⟨cs5, hcs5⟩ := HS5.out.blk.isBlk
        exact Ks.ne h0 hcs5 (by decide) (by rw [hq, e2]))
      exact Row.to (Q := fun k => F k ∨ (w.heap.size ≤ k ∧ k < w7.heap.size)) h1 (fun k hk => .inl (Row.own h0 hk).1)
  have hap7 : ∀ i, i < 257 → ∀ j, j < 257 → i ≠ j → ∀ k, (upd vals X (.slice A6 D6 c6) i).ownBlock = some k → (upd vals X (.slice A6 D6 c6) j).ownBlock ≠ some k := by
    have hx : ∀ j, j < 257 → j ≠ X → ∀ k, (Value.slice A6 D6 c6).ownBlock = some k → (vals j).ownBlock ≠ some k := fun j hj hjx k hk hk2 => by
      rcases (Row.own K6.out hk).1 with h3 | h3
      · exact HS5.out.ap j hj X HXL.out hjx k hk2 (by rw [← HV.out]; exact h3)
      · have h4 := (Row.own (HS5.out.row j hj) hk2).2
        omega
    intro i hi j hj hij k hk hk2
    by_cases e : i = X
    · subst e
      rw [upd_same] at hk
      rw [upd_other _ _ (fun e => hij e.symm)] at hk2
      exact hx j hj (fun e => hij e.symm) k hk hk2
    · rw [upd_other _ _ e] at hk
      by_cases e2 : j = X
      · subst e2
        rw [upd_same] at hk2
        exact hx i hi e k hk2 hk
      · rw [upd_other _ _ e2] at hk2
        exact HS5.out.ap i hi j hj hij k hk hk2
  have hs7 : WS w7 g b (fun k => F k ∨ (w.heap.size ≤ k ∧ k < w7.heap.size)) n last L (upd vals X (.slice A6 D6 c6)) (upd rows X (rows X ++ [h])) :=
    ⟨hb7, hm7, hr7, hap7, .inl HFX.out.1, .inl HFX.out.2, fun k hk => hk.elim (fun h1 => Nat.lt_of_lt_of_le (HS5.out.flt k h1) (Nat.le_trans hsz56 hsz67)) (fun h1 => h1.2)⟩
  have HS7 := Lib.hid hs7
  have HK7 := Lib.hid hk7
  have HOF := Lib.hid ofw
  clear og hVF ofw hcs6 hmb hgb hb7 hVb hm7 hk7 hsz5 hsz67 hsz56 hr7 hap7 hs7
  have HW7 := Lib.hid hw7
  clear hw7
  have m7 := HS7.out.blk.mapc
  have e0 := cell_at HK7.out 0 rfl
  have e1 := cell_at HK7.out 1 rfl
  have e2 := cell_at HK7.out 2 rfl
  have e3 := cell_at HK7.out 3 rfl
  obtain ⟨D, hown, hhd⟩ := HS7.out.map
  have HHD := Lib.hid hhd
  have hownd : w7.drew.ownsMap Try.prog 3 rdT b L.length D := hown
  have hnm : L.length < maxLen := Nat.lt_of_le_of_lt HLL2.out (by decide)
  have hpl : rdT (.agg #[.int .i64 a, .int .i64 h, .int .i64 l1, .int .i64 s1]) = some (datT ⟨a, h, l1, s1⟩, []) := rfl
  have hkey : keyOf Try.prog 3 (.int .i64 h) = some (.int .i64 h) := keyI HH.out
  clear hown hhd
  go_region_law ((rw [if_pos (by rfl)]; refine Go.Lib.wp_append_run_sl _ (.tmp 23) (.tmp 26) 22 rfl _ _ rfl rfl hr6' ?_))
  all_goals
    rw [← HW7.out]
    clear x5 d1 hr6' xa da x6 f6
    go_upto_region 4 with fail
    go_still_tail 7, (by kernel_rfl)
    repeat still_step
    change wpList _ _ _ _ _ w7.drew
    go_wp2_with (at_mapUpdate; go_loud (refine wpList_mapUpdate_own _ rfl _ _ _ 53 rfl 3 60 law Try.underlying53 _ b L.length D rfl hownd hnm _ _ (.int .i64 h) rfl rfl hkey _ [] hpl ?_; intro w8 hown8 hgrow8; have HO8 := Lib.hid ((Only.refl (fun k => k = b) w7.drew).grown hgrow8 (fun k hk => .inl (by simpa using hk.symm))); have HW8 := Lib.hid hown8; clear hown8 hgrow8))
    go_end0
    refine ⟨rfl, _, _, ⟨HS7.out.blk.only (w' := w8) (S := fun k => k = b) (by exact (Only.refl _ w7).drew.trans HO8.out) ?_, ?_, fun i hi => ?_, HS7.out.ap, HS7.out.fg, HS7.out.fb, fun k hk => Nat.lt_of_lt_of_le (HS7.out.flt k hk) HO8.out.size⟩, fun k hk => hk.elim .inl (fun h1 => .inr h1.1), HOF.out.then_ (S2 := fun k => k = b) (by exact (Only.refl _ w7).drew.trans HO8.out) (fun k hk => .inl (by rw [hk]; exact HFX.out.2))⟩
    · obtain ⟨cs7, hcs7⟩ := HS7.out.blk.isBlk
      exact HS7.out.map.ne hcs7
    · have hp : putL n L ⟨a, h, l, s⟩ = L.filter (fun x => decide (x.h ≠ h)) ++ [⟨a, h, l1, s1⟩] := by
        unfold putL laidAt
        simp only [← HL1.out, ← HS1.out]
      rw [hp]
      exact tight HW8.out (HHD.out.put ⟨a, h, l1, s1⟩ HH.out)
    · have hp : putRows n rows ⟨a, h, l, s⟩ = upd rows X (rows X ++ [h]) := by
        unfold putRows laidAt
        simp only [← HL1.out, ← HS1.out, ← HX.out]
      rw [hp]
      obtain ⟨esm, clm, hmb⟩ := HS7.out.map.isMap
      exact Row.only (HS7.out.row i hi) (w' := w8) (S := fun k => k = b) (by exact (Only.refl _ w7).drew.trans HO8.out) (fun q hq e => Row.neMap (HS7.out.row i hi) hmb (by rw [hq, e]))

end Go.Proofs.Ytkjokpmlnnjmoaa.Wh

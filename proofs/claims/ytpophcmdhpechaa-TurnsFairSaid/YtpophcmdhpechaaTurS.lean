/- The contracts of the functions of turns that step them: Cycle, Have and Next. -/
import Derived.Test.YtpophcmdhpechaaTur
import Derived.Test.YtpophcmdhpechaaTurP
set_option linter.unusedVariables false
set_option linter.unusedSimpArgs false
namespace Go.Proofs.Ytpophcmdhpechaa.Tur
open Go.RowKit Go.Proofs.Ytpophcmdhpechaa.Base Go.Proofs.YtpophcmdhpechaaW.PrintWords Go.Proofs.YtpophcmdhpechaaW.PrintMore
attribute [local go_sem] max2_mx min2_mn max_two min_two max_three min_three max_four min_four

/-- The cells of what places have. -/
def cel (hv : List Int) : Array Value := (hv.map (Value.int .i64)).toArray

theorem cel_at (hv : List Int) (i : Nat) (h : i < hv.length) : (cel hv)[i]? = some (.int .i64 (rd hv (i : Int))) := by
  unfold cel rd
  rw [List.getElem?_toArray, List.getElem?_map, List.getElem?_eq_getElem h, Int.toNat_natCast, List.getD_eq_getElem?_getD, List.getElem?_eq_getElem h]; rfl

theorem cel_set (hv : List Int) (i : Nat) (x : Int) : (cel hv).setIfInBounds i (.int .i64 x) = cel (hv.set i x) := by
  unfold cel; rw [List.setIfInBounds_toArray, ← List.map_set]

/-- The turns in memory. -/
structure TK (ws hv : List Int) (p a b ca : Nat) (w : World) : Prop where
  box : w.heap[p]? = some (.cells #[.slice (some ⟨a, 0, none⟩) ws.length ca, .slice (some ⟨b, 0, none⟩) ws.length ws.length, .int .i64 (cyc ws)] 59 (0, 0))
  row : ∀ i : Nat, i < ws.length → w.cell? ⟨a, i, none⟩ = some (.int .i64 (rd ws (i : Int)))
  own : w.heap[b]? = some (.cells (cel hv) 3 (0, 0))
  pb : p ≠ b
  ab : a ≠ b
  len : hv.length = ws.length

theorem TK.keep {ws hv : List Int} {p a b ca : Nat} {w w' : World} {S : Nat → Prop} (h : TK ws hv p a b ca w) (k : Only S w w') (hp : ¬ S p) (ha : ¬ S a) (hb : ¬ S b) : TK ws hv p a b ca w' :=
  ⟨k.blk h.box hp, fun i hi => k.cell (h.row i hi) ha, k.blk h.own hb, h.pb, h.ab, h.len⟩

/-- What places have is far from the machine's bounds. -/
def Near (ws hv : List Int) : Prop := ∀ i : Nat, i < ws.length → -100000000 ≤ rd hv (i : Int) ∧ rd hv (i : Int) ≤ 100000000

theorem cycle_p (ws hv : List Int) (p a b ca : Nat) (w : World) (h : TK ws hv p a b ca w) :
    Calls Try.prog 21 #[.pointer (some ⟨p, 0, none⟩)] w fun e w' => e = .returned (.int .i64 (cyc ws)) ∧ w = w' := by
  have hc2 : w.cell? ⟨p, 2, none⟩ = some (.int .i64 (cyc ws)) := cell_at h.box 2 rfl
  clear h
  go_enter Try.func21, Try.ntmps21
  go_wp2
  go_ret
  exact ⟨rfl, rfl⟩

theorem cycle_nil (w : World) : Calls Try.prog 21 #[.pointer none] w fun e w' => e = .returned (.int .i64 0) ∧ w = w' := by
  go_enter Try.func21, Try.ntmps21
  go_wp2
  go_ret
  exact ⟨rfl, rfl⟩

theorem have_nil (i : Int) (w : World) : Calls Try.prog 22 #[.pointer none, .int .i64 i] w fun e w' => e = .returned (.int .i64 0) ∧ w = w' := by
  go_enter Try.func22, Try.ntmps22
  go_wp2
  go_ret
  exact ⟨rfl, rfl⟩

theorem next_nil (w : World) : Calls Try.prog 20 #[.pointer none] w fun e w' => e = .returned (.int .i64 (-1)) ∧ w = w' := by
  go_enter Try.func20, Try.ntmps20
  go_wp2_with (go_at_call 21; refine (cycle_nil _).mono ?_; rintro e w' ⟨rfl, rfl⟩)
  go_ret
  exact ⟨rfl, rfl⟩

theorem have_no (ws hv : List Int) (p a b ca : Nat) (w : World) (h : TK ws hv p a b ca w) (i : Int) (hi : i < 0 ∨ (0 ≤ i ∧ (ws.length : Int) ≤ i)) :
    Calls Try.prog 22 #[.pointer (some ⟨p, 0, none⟩), .int .i64 i] w fun e w' => e = .returned (.int .i64 0) ∧ w = w' := by
  have hc1 : w.cell? ⟨p, 1, none⟩ = some (.slice (some ⟨b, 0, none⟩) ws.length ws.length) := cell_at h.box 1 rfl
  clear h
  rcases hi with hi | ⟨hi, hi2⟩
  all_goals
    go_enter Try.func22, Try.ntmps22
    go_wp2
    go_ret
    exact ⟨rfl, rfl⟩

theorem have_p (ws hv : List Int) (p a b ca : Nat) (w : World) (h : TK ws hv p a b ca w) (i : Nat) (hi : i < ws.length) :
    Calls Try.prog 22 #[.pointer (some ⟨p, 0, none⟩), .int .i64 (i : Int)] w fun e w' => e = .returned (.int .i64 (rd hv (i : Int))) ∧ w = w' := by
  have hc1 : w.cell? ⟨p, 1, none⟩ = some (.slice (some ⟨b, 0, none⟩) ws.length ws.length) := cell_at h.box 1 rfl
  have hc : w.cell? ⟨b, i, none⟩ = some (.int .i64 (rd hv (i : Int))) := cell_at h.own i (cel_at hv i (by rw [h.len]; exact hi))
  have hr1 : ¬ (i : Int) < 0 := by omega
  have hr2 : (i : Int) < ws.length := by omega
  clear h
  go_enter Try.func22, Try.ntmps22
  go_wp2
  go_ret
  exact ⟨rfl, rfl⟩

set_option maxHeartbeats 2000000 in
theorem next_p (ws hv : List Int) (p a b ca : Nat) (w : World) (h : TK ws hv p a b ca w) (hok : Ok ws) (hn : Near ws hv) :
    Calls Try.prog 20 #[.pointer (some ⟨p, 0, none⟩)] w fun e w' => e = .returned (.int .i64 (nxt ws hv : Nat)) ∧ TK ws (aft ws hv) p a b ca w' ∧ Only (fun k => k = b) w w' := by
  have hcz : (cyc ws == 0) = false := by have := hok.c; simp; omega
  have hcb := hok.cyc_le
  have hcp := hok.c
  have hl64 := hok.n
  have hpos := hok.pos
  have HK := Lib.hid h
  have hB := hok.b
  have HB := Lib.hid hB
  have HN := Lib.hid hn
  have HOK := Lib.hid hok
  have hc0 : w.cell? ⟨p, 0, none⟩ = some (.slice (some ⟨a, 0, none⟩) ws.length ca) := cell_at h.box 0 rfl
  clear h hB hn hok
  go_enter Try.func20, Try.ntmps20
  go_wp2_with (go_at_call 21; refine (cycle_p _ _ _ _ _ _ _ HK.out).mono ?_; rintro e w' ⟨rfl, rfl⟩)
  go_loopw [3, 4, 5, 14] (fun vat v4 v5 vi wr => ∃ i : Nat, vat = .int .i64 (best (plus ws hv) i : Nat) ∧ vi = .int .i64 (i : Int) ∧ i ≤ ws.length ∧ Hid (TK ws (mix ws hv i) p a b ca wr) ∧ Hid (Only (fun k => k = b) w wr)) (fun _ _ _ vi _ => ws.length - (intOf vi).toNat)
  case atStart => exact ⟨0, rfl, rfl, by omega, HK, Lib.hid (Only.refl _ _)⟩
  case round =>
    obtain ⟨i, rfl, rfl, hi, HKr, HO⟩ := hrel
    have hgo : i < ws.length ∨ i = ws.length := by omega
    rcases hgo with hlt | rfl
    · have hlt' : (i : Int) < ws.length := by omega
      have hml : (mix ws hv i).length = ws.length := by rw [mix_len]; exact HK.out.len
      have hc0 := HKr.out.row i hlt
      have hc1 : wr.cell? ⟨p, 1, none⟩ = some (.slice (some ⟨b, 0, none⟩) ws.length ws.length) := cell_at HKr.out.box 1 rfl
      have e2 : rd (mix ws hv i) (i : Int) = rd hv (i : Int) := by rw [mix_rd ws hv i i (by rw [HK.out.len]; omega), if_neg (by omega)]
      have hc2 : wr.cell? ⟨b, i, none⟩ = some (.int .i64 (rd hv (i : Int))) := by
        have := cell_at HKr.out.own i (cel_at (mix ws hv i) i (by omega))
        rw [e2] at this; exact this
      have hf2 : wr.frozen? ⟨b, i, none⟩ = false := blk_frozen HKr.out.own i
      have hw : wrap64 (rd hv (i : Int) + rd ws (i : Int)) = plus ws hv i := by
        have := HN.out i hlt
        have := HB.out i hlt
        unfold plus wrap64; omega
      have hble := best_le (plus ws hv) i
      have hKs : TK ws (mix ws hv (i + 1)) p a b ca (wr.setCell ⟨b, i, none⟩ (.int .i64 (plus ws hv i))) := by
        have hO1 : Only (fun k => k = b) wr (wr.setCell ⟨b, i, none⟩ (.int .i64 (plus ws hv i))) := (Only.refl (fun k => k = b) wr).setCell (.inl rfl) _
        refine ⟨hO1.blk HKr.out.box HKr.out.pb, fun j hj => hO1.cell (HKr.out.row j hj) HKr.out.ab, ?_, HKr.out.pb, HKr.out.ab, by rw [mix_len]; exact HK.out.len⟩
        have := blk_set HKr.out.own i (.int .i64 (plus ws hv i))
        rw [cel_set] at this
        exact this
      have hd1 : (wr.setCell ⟨b, i, none⟩ (.int .i64 (plus ws hv i))).cell? ⟨p, 1, none⟩ = some (.slice (some ⟨b, 0, none⟩) ws.length ws.length) := cell_at hKs.box 1 rfl
      have hd2 : (wr.setCell ⟨b, i, none⟩ (.int .i64 (plus ws hv i))).cell? ⟨b, i, none⟩ = some (.int .i64 (plus ws hv i)) := by
        have := cell_at hKs.own i (cel_at (mix ws hv (i + 1)) i (by rw [mix_len, HK.out.len]; omega))
        rw [mix_rd ws hv (i + 1) i (by rw [HK.out.len]; omega), if_pos (by omega)] at this; exact this
      have hd3 : (wr.setCell ⟨b, i, none⟩ (.int .i64 (plus ws hv i))).cell? ⟨b, best (plus ws hv) i, none⟩ = some (.int .i64 (plus ws hv (best (plus ws hv) i))) := by
        have := cell_at hKs.own (best (plus ws hv) i) (cel_at (mix ws hv (i + 1)) _ (by rw [mix_len, HK.out.len]; omega))
        rw [mix_rd ws hv (i + 1) _ (by rw [HK.out.len]; omega), if_pos (by omega)] at this; exact this
      have HKS := Lib.hid hKs
      have HOS : Hid (Only (fun k => k = b) w (wr.setCell ⟨b, i, none⟩ (.int .i64 (plus ws hv i)))) := Lib.hid (HO.out.setCell (.inl rfl) _)
      have hble' : (best (plus ws hv) i : Int) < ws.length := by omega
      have HBst : Hid (best (plus ws hv) (i + 1) = if plus ws hv (best (plus ws hv) i) < plus ws hv i then i else best (plus ws hv) i) := Lib.hid rfl
      clear e2 hKs
      by_cases hc : plus ws hv (best (plus ws hv) i) < plus ws hv i
      · have HB1 : Hid (best (plus ws hv) (i + 1) = i) := Lib.hid (by rw [HBst.out, if_pos hc])
        generalize best (plus ws hv) i = bi at *
        go_wp2
        go_quiet (fail)
        go_wp2
        go_roundw
        case rel => exact ⟨i + 1, by rw [HB1.out], by go_num, by omega, Lib.hid (HKS.out.keep ((Only.refl (fun _ => False) _).drewN _) id id id), Lib.hid (HOS.out.drewN _)⟩
        case measure => simp [intOf]; omega
      · have HB1 : Hid (best (plus ws hv) (i + 1) = best (plus ws hv) i) := Lib.hid (by rw [HBst.out, if_neg hc])
        go_wp2
        go_quiet (fail)
        go_wp2
        go_roundw
        case rel => exact ⟨i + 1, by rw [HB1.out], by go_num, by omega, Lib.hid (HKS.out.keep ((Only.refl (fun _ => False) _).drewN _) id id id), Lib.hid (HOS.out.drewN _)⟩
        case measure => simp [intOf]; omega
    · have hnl : nxt ws hv < ws.length := nxt_lt ws hv hpos
      have hnl' : (nxt ws hv : Int) < ws.length := by omega
      have hc1 : wr.cell? ⟨p, 1, none⟩ = some (.slice (some ⟨b, 0, none⟩) ws.length ws.length) := cell_at HKr.out.box 1 rfl
      have hc2 : wr.cell? ⟨p, 2, none⟩ = some (.int .i64 (cyc ws)) := cell_at HKr.out.box 2 rfl
      have hc3 : wr.cell? ⟨b, nxt ws hv, none⟩ = some (.int .i64 (plus ws hv (nxt ws hv))) := by
        have := cell_at HKr.out.own (nxt ws hv) (cel_at (mix ws hv ws.length) _ (by rw [mix_len, HK.out.len]; omega))
        rw [mix_rd ws hv ws.length _ (by rw [HK.out.len]; omega), if_pos (by omega)] at this; exact this
      have hf2 : wr.frozen? ⟨b, nxt ws hv, none⟩ = false := blk_frozen HKr.out.own _
      have hw : wrap64 (plus ws hv (nxt ws hv) - cyc ws) = plus ws hv (nxt ws hv) - cyc ws := by
        have := HN.out _ hnl
        have := HB.out _ hnl
        unfold plus wrap64; omega
      have hKs : TK ws (aft ws hv) p a b ca (wr.setCell ⟨b, nxt ws hv, none⟩ (.int .i64 (plus ws hv (nxt ws hv) - cyc ws))) := by
        have hO1 : Only (fun k => k = b) wr (wr.setCell ⟨b, nxt ws hv, none⟩ (.int .i64 (plus ws hv (nxt ws hv) - cyc ws))) := (Only.refl (fun k => k = b) wr).setCell (.inl rfl) _
        refine ⟨hO1.blk HKr.out.box HKr.out.pb, fun j hj => hO1.cell (HKr.out.row j hj) HKr.out.ab, ?_, HKr.out.pb, HKr.out.ab, by rw [aft_len]; exact HK.out.len⟩
        have := blk_set HKr.out.own (nxt ws hv) (.int .i64 (plus ws hv (nxt ws hv) - cyc ws))
        rw [cel_set] at this
        exact this
      have HKS := Lib.hid hKs
      have HOS : Hid (Only (fun k => k = b) w (wr.setCell ⟨b, nxt ws hv, none⟩ (.int .i64 (plus ws hv (nxt ws hv) - cyc ws)))) := Lib.hid (HO.out.setCell (.inl rfl) _)
      have HE : Hid (best (plus ws hv) ws.length = nxt ws hv) := Lib.hid rfl
      rw [HE.out]
      clear hKs
      go_wp2
      go_still_tail 11, (by kernel_rfl)
      repeat still_step
      change wpList _ _ _ _ _ wr.drew
      go_wp2
      go_ret
      refine ⟨rfl, HKS.out.keep (S := fun _ => False) ⟨rfl, rfl, rfl, Nat.le_refl _, fun _ _ _ => rfl⟩ id id id, ?_⟩
      exact HOS.out.trans ⟨rfl, rfl, rfl, Nat.le_refl _, fun _ _ _ => rfl⟩

end Go.Proofs.Ytpophcmdhpechaa.Tur

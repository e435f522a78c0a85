/- QuotaBounds: the walk of the law over the contracts, and the plain law: between any two times no more is given than the burst, and one for each whole period. -/
import Derived.Test.YthleomamdaijdaaQuoB
set_option linter.unusedVariables false
set_option linter.unusedSimpArgs false
namespace Go.Proofs.Ythleomamdaijdaa.Quo
open Go.RowKit Go.Proofs.Ythleomamdaijdaa.Base Go.Proofs.YthleomamdaijdaaW.PrintWords Go.Proofs.YthleomamdaijdaaW.PrintMore
attribute [local go_sem] max2_mx min2_mn max_two min_two max_three min_three max_four min_four

/-- What was given, up to now: each time lies at or below now; the mark lies a period behind each, for each given since; of any two no more than may be. -/
structure GI (p b n m : Int) (G : List Int) : Prop where
  h1 : ∀ i : Nat, i < G.length → 0 ≤ rd G i ∧ rd G i ≤ n
  h2 : ∀ i : Nat, i < G.length → rd G i + ((G.length - i : Nat) : Int) * p ≤ m
  h3 : ∀ i j : Nat, i ≤ j → j < G.length → rd G i ≤ rd G j ∧ ((j - i + 1 : Nat) : Int) * p ≤ b * p + (rd G j - rd G i)

theorem GI.nil (p b n m : Int) : GI p b n m [] := ⟨fun i h => by simp at h, fun i h => by simp at h, fun i j _ h => by simp at h⟩

theorem GI.later {p b n m n' : Int} {G : List Int} (h : GI p b n m G) (hn : n ≤ n') : GI p b n' m G :=
  ⟨fun i hi => ⟨(h.h1 i hi).1, Int.le_trans (h.h1 i hi).2 hn⟩, h.h2, h.h3⟩

theorem rd_snoc_old (G : List Int) (x : Int) (i : Nat) (h : i < G.length) : rd (G ++ [x]) (i : Int) = rd G i := by
  simp [rd, List.getElem?_append_left h]

theorem rd_snoc_new (G : List Int) (x : Int) : rd (G ++ [x]) (G.length : Int) = x := by simp [rd]

theorem GI.given {p b n m n' : Int} {G : List Int} (h : GI p b n m G) (hn : n ≤ n') (h0 : 0 ≤ n') (hp : 1 ≤ p) (hf : mx m n' + p - n' ≤ b * p) : GI p b n' (mx m n' + p) (G ++ [n']) := by
  have hx : m ≤ mx m n' ∧ n' ≤ mx m n' := by rcases mx_cases m n' with h | h <;> omega
  have hl : (G ++ [n']).length = G.length + 1 := by simp
  refine ⟨fun i hi => ?_, fun i hi => ?_, fun i j hij hj => ?_⟩
  · by_cases c : i < G.length
    · rw [rd_snoc_old G n' i c]
      exact ⟨(h.h1 i c).1, Int.le_trans (h.h1 i c).2 hn⟩
    · obtain rfl : i = G.length := by omega
      rw [rd_snoc_new]; omega
  · by_cases c : i < G.length
    · rw [rd_snoc_old G n' i c, hl]
      have h2 := h.h2 i c
      have e : ((G.length + 1 - i : Nat) : Int) * p = ((G.length - i : Nat) : Int) * p + p := by
        rw [show G.length + 1 - i = (G.length - i) + 1 by omega, Int.natCast_add, Int.add_mul]; simp
      rw [e]; omega
    · obtain rfl : i = G.length := by omega
      rw [rd_snoc_new, hl, show G.length + 1 - G.length = 1 by omega]
      simp; omega
  · by_cases c : j < G.length
    · rw [rd_snoc_old G n' i (by omega), rd_snoc_old G n' j c]
      exact h.h3 i j hij c
    · obtain rfl : j = G.length := by omega
      rw [rd_snoc_new]
      by_cases c2 : i < G.length
      · rw [rd_snoc_old G n' i c2]
        have h1 := h.h1 i c2
        have h2 := h.h2 i c2
        have e : ((G.length - i + 1 : Nat) : Int) * p = ((G.length - i : Nat) : Int) * p + p := by
          rw [Int.natCast_add, Int.add_mul]; simp
        rw [e]
        constructor <;> omega
      · obtain rfl : i = G.length := by omega
        rw [rd_snoc_new, show G.length - G.length + 1 = 1 by omega]
        have := hx.2
        constructor
        · omega
        · simp; omega

/-- The law's own test never says yes. -/
theorem GI.holds {p b n m : Int} {G : List Int} (h : GI p b n m G) (hp : 1 ≤ p) (i j : Nat) (hij : i ≤ j) (hj : j < G.length) : (j : Int) - i + 1 ≤ b + (rd G j - rd G i) / p := by
  obtain ⟨h1, h2⟩ := h.h3 i j hij hj
  have e : b + (rd G j - rd G i) / p = (b * p + (rd G j - rd G i)) / p := by
    rw [Int.add_comm (b * p), Int.add_mul_ediv_right _ _ (by omega), Int.add_comm]
  rw [e, Int.le_ediv_iff_mul_le (by omega)]
  have : ((j : Int) - i + 1) = ((j - i + 1 : Nat) : Int) := by omega
  rw [this]; exact h2

theorem info3 : (Try.prog.info? 3).map (fun i => (i.zero, i.size, i.bytes)) = some (some (.int .i64 0), 1, 8) := by kernel_rfl

set_option maxHeartbeats 4000000 in
theorem bounds_yes (p b : Int) (A : Option Addr) (len cap : Nat) (xs : List Int) (w : World) (hp1 : 1 ≤ p) (hp2 : p ≤ 1000000) (hb1 : 1 ≤ b) (hb2 : b ≤ 1000)
    (hr : Kd.C (Kd.int .i64) w A len xs) (hl : xs.length = len) (hreach : len * 8 ≤ 140737488351232) :
    Calls Try.prog 11 #[.int .i64 p, .int .i64 b, .slice A len cap] w fun e w' => e = .returned (.bool true) ∧ Below w.heap.size w w' := by
  have HR := Lib.hid hr
  have HI0 := Lib.hid (inv_new hp1 hp2 hb1 hb2)
  clear hr
  go_enter Try.func11, Try.ntmps11
  go_wp2_with (go_at_call 36; refine (new_ok p b _ ⟨hp1, hp2⟩ ⟨hb1, hb2⟩).mono ?_; rintro e w1 ⟨rfl, hq1, ho1⟩; have HQ1 := Lib.hid hq1; have HO1 := Lib.hid ho1; clear hq1 ho1)
  obtain ⟨g, hg⟩ : ∃ g, g = w.heap.size := ⟨_, rfl⟩
  rw [← hg]
  have HG := Lib.hid hg
  have HQ1' : Hid (Q57 w1 g p b 0 0) := Lib.hid (by rw [hg]; exact HQ1.out)
  have HB1 : Hid (Below w.heap.size w w1) := Lib.hid (HO1.out.below (Below.refl _ _) (Nat.le_refl _) (fun _ h => h.elim))
  clear hg HQ1 HO1
  go_loopw [9, 10, 11] (fun vn vg vi wr => ∃ (n m i : Int) (G : List Int), vn = .int .i64 n ∧ vi = .int .i64 i ∧ 0 ≤ i ∧ i ≤ 60 ∧ G.length ≤ i ∧ Hid (Inv p b n m) ∧ Hid (GI p b n m G) ∧ Hid (Q57 wr g p b n m) ∧ Hid (Kd.R (Kd.int .i64) 3 wr w.heap.size (fun _ => True) vg G) ∧ Hid (Below w.heap.size w wr)) (fun _ _ vi _ => (60 - intOf vi).toNat)
  case atStart => exact ⟨0, 0, 0, [], rfl, rfl, by omega, by omega, by simp, HI0, Lib.hid (GI.nil _ _ _ _), HQ1', Lib.hid (Kd.R_nil _ _ _ _ _), HB1⟩
  case round =>
    obtain ⟨n, m, i, G, rfl, rfl, hi0, hi1, hG, HI, HGI, HQ, HRG, HB⟩ := hrel
    have hgo : (i < (len : Int) ∧ i < 60) ∨ (i < (len : Int) ∧ ¬ i < 60) ∨ ¬ i < (len : Int) := by omega
    rcases hgo with ⟨hlt, h60⟩ | ⟨hlt, h60⟩ | hlt
    · · obtain ⟨ad, hA, hcell⟩ := Kd.at_int HR.out i hi0 hlt
        cases hA
        have hc := (HB.out.cell (World.block_lt_of_cell? w _ hcell)).trans hcell
        clear hcell
        obtain ⟨x, hx⟩ : ∃ x, x = rd xs i := ⟨_, rfl⟩
        rw [← hx] at hc
        clear hx
        have hf := tk_facts HI.out x
        have ho := ovn_bounds x HI.out.n1 HI.out.n2
        have hgt : g < wr.heap.size := blk_lt HQ.out
        have hgw : w.heap.size ≤ g := by have := HG.out; omega
        by_cases hok : tkb p b n m x = true
        · obtain ⟨hw, hm⟩ := hf.2.1 hok
          have hfar := hf.1.1 hok
          have HI2 : Hid (Inv p b (mx n (cl x)) (mx m (mx n (cl x)) + p)) := Lib.hid (by have h := hf.2.2.2; rw [hm] at h; exact h)
          have HGI2 : Hid (GI p b (mx n (cl x)) (mx m (mx n (cl x)) + p) (G ++ [(mx n (cl x))])) := Lib.hid (HGI.out.given ho.1 (Int.le_trans HI.out.n1 ho.1) HI.out.p1 hfar)
          have HT := Lib.hid (fun (w : World) (hq : Q57 w g p b n m) => take_eq g p b n m x true 0 (mx n (cl x)) (mx m (mx n (cl x)) + p) hok hw rfl hm w hq)
          clear hf ho hok hw hm hfar
          go_wp2_with (first | (go_at_call 24; refine (clamp_r _ _).mono ?_; rintro e w' ⟨rfl, rfl⟩) | (go_at_call 38; refine (HT.out _ HQ.out).mono ?_; rintro e w2 ⟨rfl, hq2, ho2⟩; have HQ2 := Lib.hid hq2; have HO2 := Lib.hid ho2; have HR2 := Lib.hid (R_only HRG.out ho2 HQ.out (by decide)); have HB2 := Lib.hid (ho2.below HB.out (HB.out.size) (fun _ h => by omega)); clear hq2 ho2) | ((with_reducible refine gate_builtin (b := .append) (xs := #[.tmp 72, .tmp 74]) rfl ?_); at_builtin; refine Kd.R_append (Kd.int .i64) (w0 := w) w.heap.size rfl (.tmp 72) (.tmp 74) 37 3 (.int .i64 0) 8 rfl Try.underlying37 info3 rfl (by decide) (by omega) u10 G (mx n (cl x)) [.int .i64 (mx n (cl x))] (fun _ => True) (fun _ => False) rfl rfl ?aP (fun _ hk => hk.elim) ?aF ?aO ?aB ?aS ?aL ?_; (case aP => exact rfl); (case aF => exact (fun _ _ => trivial)); (case aO => exact HR2.out); (case aB => exact HB2.out); (case aS => exact HB2.out.size); (case aL => omega); intro v3 w3 ho3 hb3 hg3 hat3; have HR3 := Lib.hid ho3; have HB3 := Lib.hid hb3; have HQ3 : Hid (Q57 w3 g p b (mx n (cl x)) (mx m (mx n (cl x)) + p)) := Lib.hid (blk_grown HQ2.out hg3 (Kd.R_ne HR2.out HQ2.out (by decide))); clear ho3 hb3 hg3 hat3))
          go_roundw
          case rel => exact ⟨(mx n (cl x)), mx m (mx n (cl x)) + p, i + 1, G ++ [(mx n (cl x))], rfl, by go_num, by omega, by omega, by simp; omega, HI2, HGI2, HQ3, HR3, HB3⟩
          case measure => simp [intOf]; omega
        · have hokf : tkb p b n m x = false := Bool.eq_false_iff.2 hok
          obtain ⟨hw, hm⟩ := hf.2.2.1 hokf
          have hfar : ¬ far p n m x ≤ b * p := fun h => hok (hf.1.2 h)
          obtain ⟨wt, hwt⟩ : ∃ wt, wt = far p n m x - b * p := ⟨_, rfl⟩
          rw [← hwt] at hw
          have hwz : (wt == 0) = false := by simp; omega
          have hwn : 0 < wt := by omega
          have HI2 : Hid (Inv p b (mx n (cl x)) m) := Lib.hid (by have h := hf.2.2.2; rw [hm] at h; exact h)
          have HGI2 : Hid (GI p b (mx n (cl x)) m G) := Lib.hid (HGI.out.later ho.1)
          have HT := Lib.hid (fun (w : World) (hq : Q57 w g p b n m) => take_eq g p b n m x false wt (mx n (cl x)) m hokf hw rfl hm w hq)
          clear hf ho hok hokf hw hm hfar hwt
          go_wp2_with (first | (go_at_call 24; refine (clamp_r _ _).mono ?_; rintro e w' ⟨rfl, rfl⟩) | (go_at_call 38; refine (HT.out _ HQ.out).mono ?_; rintro e w2 ⟨rfl, hq2, ho2⟩; have HQ2 := Lib.hid hq2; have HO2 := Lib.hid ho2; have HR2 := Lib.hid (R_only HRG.out ho2 HQ.out (by decide)); have HB2 := Lib.hid (ho2.below HB.out (HB.out.size) (fun _ h => by omega)); clear hq2 ho2))
          go_roundw
          case rel => exact ⟨mx n (cl x), m, i + 1, G, rfl, by go_num, by omega, by omega, by omega, HI2, HGI2, HQ2, HR2, HB2⟩
          case measure => simp [intOf]; omega
    all_goals
      obtain ⟨A2, c2, hv, hle, hC⟩ := Kd.R_reads HRG.out
      subst hv
      have HC := Lib.hid hC
      clear hC
      have hGl : (G.length : Int) ≤ 60 := by omega
      go_wp2
      go_loopw [14] (fun vi wr2 => ∃ i2 : Nat, vi = .int .i64 i2 ∧ i2 ≤ G.length ∧ Hid (Kd.C (Kd.int .i64) wr2 A2 G.length G) ∧ Hid (Below w.heap.size w wr2)) (fun vi _ => G.length - (intOf vi).toNat)
      case atStart => exact ⟨0, rfl, by omega, HC, HB⟩
      case round =>
        obtain ⟨i2, rfl, hi2, HC2, HB2⟩ := hrel
        by_cases hlt2 : (i2 : Int) < (G.length : Int)
        · go_wp2
          go_loopw [15] (fun vj wr3 => ∃ j2 : Nat, vj = .int .i64 j2 ∧ i2 ≤ j2 ∧ j2 ≤ G.length ∧ Hid (Kd.C (Kd.int .i64) wr3 A2 G.length G) ∧ Hid (Below w.heap.size w wr3)) (fun vj _ => G.length - (intOf vj).toNat)
          case atStart => exact ⟨i2, rfl, by omega, by omega, HC2, HB2⟩
          case round =>
            obtain ⟨j2, rfl, hij, hj2, HC3, HB3⟩ := hrel
            by_cases hlt3 : (j2 : Int) < (G.length : Int)
            · obtain ⟨ad2, hA2, hci⟩ := Kd.at_int HC3.out (i2 : Int) (by omega) hlt2
              obtain ⟨ad3, hA3, hcj⟩ := Kd.at_int HC3.out (j2 : Int) (by omega) hlt3
              cases hA2
              cases hA3
              rw [Int.toNat_natCast] at hci hcj
              obtain ⟨hs1, hs2⟩ := HGI.out.h3 i2 j2 hij (by omega)
              have hn1 := HGI.out.h1 i2 (by omega)
              have hn2 := HGI.out.h1 j2 (by omega)
              have hno := HGI.out.holds HI.out.p1 i2 j2 hij (by omega)
              have hnm := HI.out.n2
              have hd0 : 0 ≤ (rd G j2 - rd G i2) / p := Int.ediv_nonneg (by omega) (by omega)
              have hd1 : (rd G j2 - rd G i2) / p ≤ rd G j2 - rd G i2 := Int.ediv_le_self _ (by omega)
              obtain ⟨xi, hxi⟩ : ∃ x, x = rd G (i2 : Int) := ⟨_, rfl⟩
              obtain ⟨xj, hxj⟩ : ∃ x, x = rd G (j2 : Int) := ⟨_, rfl⟩
              rw [← hxi] at hci hs1 hn1 hno hd0 hd1
              rw [← hxj] at hcj hs1 hn2 hno hd0 hd1
              have hno2 : ¬ b + (xj - xi) / p < (j2 : Int) - i2 + 1 := by omega
              clear hxi hxj hs2 hno
              go_wp2
              go_quiet (fail)
              go_wp2
              go_roundw
              case rel => exact ⟨j2 + 1, by go_num, by omega, by omega, Lib.hid (Kd.C_drewN HC3.out _), Lib.hid (pw_below_drewN HB3.out _)⟩
              case measure => simp [intOf]; omega
            · go_wp2
              go_roundw
              case rel => exact ⟨i2 + 1, by go_num, by omega, HC3, HB3⟩
              case measure => simp [intOf]; omega
        · go_wp2_with (go_at_call 40; refine (awake_p _).mono ?_; rintro e w5 ⟨rfl, ho5⟩; have HO5 := Lib.hid ho5; clear ho5)
          go_ret
          exact ⟨rfl, HO5.out.below HB2.out (HB2.out.size) (fun _ h => h.elim)⟩

theorem bounds_no (p b : Int) (A : Option Addr) (len cap : Nat) (w : World) (h : ¬ (1 ≤ p ∧ p ≤ 1000000 ∧ 1 ≤ b ∧ b ≤ 1000)) :
    Calls Try.prog 11 #[.int .i64 p, .int .i64 b, .slice A len cap] w fun e w' => e = .returned (.bool true) ∧ Below w.heap.size w w' := by
  have HN := Lib.hid h
  clear h
  go_enter Try.func11, Try.ntmps11
  go_wp2_with (first | (go_at_call 36; refine (new_no p b _ HN.out).mono ?_; rintro e w1 ⟨rfl, rfl⟩) | (go_at_call 40; refine (awake_p _).mono ?_; rintro e w5 ⟨rfl, ho5⟩; have HO5 := Lib.hid ho5; clear ho5))
  go_ret
  exact ⟨rfl, HO5.out.below (Below.refl _ _) (Nat.le_refl _) (fun _ h => h.elim)⟩

theorem bounds_walk (p b : Int) (A : Option Addr) (len cap : Nat) (xs : List Int) (w : World) (hr : Kd.C (Kd.int .i64) w A len xs) (hl : xs.length = len) (hreach : len * 8 ≤ 140737488351232) :
    Calls Try.prog 11 #[.int .i64 p, .int .i64 b, .slice A len cap] w fun e w' => e = .returned (.bool true) ∧ Below w.heap.size w w' := by
  by_cases h : 1 ≤ p ∧ p ≤ 1000000 ∧ 1 ≤ b ∧ b ≤ 1000
  · exact bounds_yes p b A len cap xs w h.1 h.2.1 h.2.2.1 h.2.2.2 hr hl hreach
  · exact bounds_no p b A len cap w h

end Go.Proofs.Ythleomamdaijdaa.Quo

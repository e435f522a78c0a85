/- Wheel: what is cancelled is never told. -/
import Derived.Test.YtkjokpmlnnjmoaaWhY
set_option linter.unusedVariables false
set_option linter.unusedSimpArgs false
namespace Go.Proofs.Ytkjokpmlnnjmoaa.Wh
open Go.RowKit Go.Maps Go.Proofs.Ytkjokpmlnnjmoaa.Base Go.Proofs.Ytkjokpmlnnjmoaa.Rws Go.Proofs.YtkjokpmlnnjmoaaW.PrintWords Go.Proofs.YtkjokpmlnnjmoaaW.PrintMore
attribute [local go_sem] max2_mx min2_mn max_two min_two max_three min_three max_four min_four

theorem rest_name {e : Int} {K : List (Int × Int)} {h : Int} (hn : (K.map Prod.snd).Nodup) (hk : h ∈ K.map Prod.snd) : h ∈ (restK e K).map Prod.snd ↔ h ∉ outK e K := by
  obtain ⟨p, hp, rfl⟩ := List.mem_map.1 hk
  have hone : ∀ q ∈ K, q.2 = p.2 → q = p := by
    clear hk
    induction K with
    | nil => intro q hq; cases hq
    | cons x K ih =>
      rw [List.map_cons, List.nodup_cons] at hn
      intro q hq he
      rcases List.mem_cons.1 hq with rfl | h1
      · rcases List.mem_cons.1 hp with rfl | h2
        · rfl
        · exact absurd (List.mem_map.2 ⟨p, h2, he.symm⟩) hn.1
      · rcases List.mem_cons.1 hp with rfl | h2
        · exact absurd (List.mem_map.2 ⟨q, h1, he⟩) hn.1
        · exact ih hn.2 h2 q h1 he
  constructor
  · intro h1 h2
    obtain ⟨q, hq, he⟩ := List.mem_map.1 h1
    have hq2 := List.mem_filter.1 hq
    have := hone q hq2.1 he
    subst this
    obtain ⟨a, ha, hle⟩ := out_mem.1 h2
    have h3 := hone (a, q.2) ha rfl
    have h4 := of_decide_eq_true hq2.2
    rw [← h3] at h4
    simp only at h4
    omega
  · intro h1
    refine List.mem_map.2 ⟨p, List.mem_filter.2 ⟨hp, decide_eq_true ?_⟩, rfl⟩
    by_cases h2 : e < p.1
    · exact h2
    · exact absurd (out_mem.2 ⟨p.1, hp, by omega⟩) h1

set_option maxHeartbeats 8000000 in
set_option maxRecDepth 100000 in
theorem cancels_walk (now : Int) (l : List Int) (A : Option Addr) (c : Nat) (k mid to_ : Int) (w : World) (hl : Kd.C KI w A l.length l) (hc : l.length ≤ c) :
    Calls Try.prog 8 #[.int .i64 now, .slice A l.length c, .int .i64 k, .int .i64 mid, .int .i64 to_] w fun e w' => e = .returned (.bool true) ∧ Below w.heap.size w w' := by
  have HAW : Hid (∀ w, Calls Try.prog 9 #[] w fun e w' => e = .returned (.bool true) ∧ Only (fun _ => False) w w') := Lib.hid awake_p
  obtain ⟨n, hn⟩ : ∃ n, n = l.length := ⟨_, rfl⟩
  rw [← hn] at hl hc ⊢
  by_cases h00 : n = 0
  · have hd0 : ((n : Int) == (0 : Int)) = true := by simp [h00]
    clear hl hc hn h00
    go_enter Try.func8, Try.ntmps8
    go_wp2_with (go_at_call 9; refine (HAW.out _).mono ?_; rintro e w1 ⟨rfl, o1⟩; have O1 := Lib.hid o1; clear o1)
    go_ret
    exact ⟨rfl, below_of O1.out⟩
  have hd0 : ((n : Int) == (0 : Int)) = false := by simp; omega
  by_cases h100 : 100 < n
  · have hd : decide ((100 : Int) < (n : Int)) = true := decide_eq_true (by omega)
    clear hl hc hn h100 h00
    go_enter Try.func8, Try.ntmps8
    go_wp2_with (go_at_call 9; refine (HAW.out _).mono ?_; rintro e w1 ⟨rfl, o1⟩; have O1 := Lib.hid o1; clear o1)
    go_ret
    exact ⟨rfl, below_of O1.out⟩
  have hd : decide ((100 : Int) < (n : Int)) = false := decide_eq_false (by omega)
  have HL := Lib.hid hl
  have HN := Lib.hid hn
  have HB : Hid (n ≤ 100) := Lib.hid (by omega)
  have HPOS : Hid (0 < n) := Lib.hid (by omega)
  have HNW := Lib.hid (wh_new now w)
  have hn0 : ¬ (n : Int) = 0 := by omega
  clear hl hn h100 h00
  go_enter Try.func8, Try.ntmps8
  go_upto_region 4 with fail
  obtain ⟨r, hr⟩ : ∃ r, r = k.tmod n := ⟨_, rfl⟩
  have hrb : -(n : Int) < r ∧ r < (n : Int) := by
    rw [hr]
    have h1 := Int.natAbs_tmod k n
    have h2 : k.natAbs % (n : Int).natAbs < (n : Int).natAbs := Nat.mod_lt _ (by have := HPOS.out; omega)
    rw [← h1] at h2
    omega
  rw [← hr]
  obtain ⟨a, ha⟩ : ∃ a : Nat, a = r.natAbs := ⟨_, rfl⟩
  have HAN : Hid (a < n) := Lib.hid (by omega)
  have hab : a ≤ 100 := by have := HB.out; omega
  clear hr
  have hrr : (r < 0 ∧ r = -(a : Int)) ∨ r = (a : Int) := by omega
  clear ha hrb
  rcases hrr with ⟨h1, rfl⟩ | rfl
  · go_upto_region 6 with fail
    clear h1
    go_wp2_with (go_at_call 10; refine HNW.out.mono ?_; rintro e w1 ⟨g, F, rfl, h1, hf, o1⟩; have H1 := Lib.hid h1; have HF := Lib.hid hf; have O1 := Lib.hid o1; clear h1 hf o1)
    go_loopw [13] (fun v13 wr => ∃ (j : Nat) (Fj : Nat → Prop), v13 = .int .i64 (j : Int) ∧ j ≤ n ∧ Hid (WH wr g Fj (cl now) (j : Int) (added (l.take j))) ∧ Hid (∀ k, Fj k → w.heap.size ≤ k) ∧ Hid (Only (fun _ => False) w wr)) (fun v13 _ => n - (RowKit.intOf v13).toNat)
    case atStart => exact ⟨0, F, rfl, Nat.zero_le _, H1, HF, O1⟩
    case round =>
      clear H1 HF O1 HNW
      obtain ⟨j, Fj, rfl, hj, HH, HF, HO⟩ := hrel
      have hgo : j < n ∨ j = n := by omega
      rcases hgo with hlt | rfl
      · have hlt' : (j : Int) < (n : Int) := by omega
        have hNb := HB.out
        obtain ⟨ad, rfl, hx⟩ := Kd.at_int HL.out (j : Int) (by omega) hlt'
        rw [Int.toNat_natCast] at hx
        have hxr : wr.cell? (ad.add j) = some (.int .i64 (rd l (j : Int))) := by
          have := (HO.out.below (Below.refl _ _) (Nat.le_refl _) (fun _ h => h.elim)).cell (World.block_lt_of_cell? w _ hx)
          rw [hx] at this
          exact this
        have hxx := rd_at (l := l) (j := j) (by rw [← HN.out]; exact hlt)
        obtain ⟨x, hxe⟩ : ∃ x, x = rd l (j : Int) := ⟨_, rfl⟩
        rw [← hxe] at hxr hxx
        have HAD := Lib.hid (wh_add x HH.out (by rw [added_len, List.length_take]; omega) (by omega))
        rw [← added_step hxx] at HAD
        clear hx hxx hxe
        go_wp2_with (go_at_call 11; refine HAD.out.mono ?_; rintro e w2 ⟨rfl, F2, h2, hf2, o2⟩; have H2 := Lib.hid h2; have HF2 : Hid (∀ k, F2 k → w.heap.size ≤ k) := Lib.hid (fun k hk => by have h0 := HO.out.size; rcases hf2 k hk with h | h; exact HF.out k h; omega); have O2 : Hid (Only (fun _ => False) w w2) := Lib.hid (HO.out.then_ o2 (fun k hk => .inr (HF.out k hk))); clear h2 hf2 o2)
        go_roundw
        case rel => exact ⟨j + 1, F2, by go_num, by omega, H2, HF2, O2⟩
        case measure => simp [RowKit.intOf]; omega
      · have hge : ¬ (j : Int) < j := by omega
        have hh := HH.out
        rw [HN.out, List.take_length, ← HN.out] at hh
        have HH' := Lib.hid hh
        obtain ⟨e1, he1⟩ : ∃ e, e = mx (cl mid) (cl now) := ⟨_, rfl⟩
        have HAV := Lib.hid (wh_adv mid hh he1)
        have hin0 : (a : Int) + 1 ∈ (added l).map Prod.snd := List.mem_map.2 ⟨(cl (rd l (a : Int)), (a : Int) + 1), added_mem.2 ⟨a, rd l (a : Int), rd_at (by rw [← HN.out]; exact HAN.out), rfl⟩, rfl⟩
        have HRN := Lib.hid (rest_name (e := e1) hh.nd hin0)
        clear hh HH he1 hin0
        go_upto_region 12 with (go_at_call 12; refine HAV.out.mono ?_; rintro en w2 ⟨v, F2, rfl, k2, h2, hf2, o2⟩; have K2 := Lib.hid k2; have H2 := Lib.hid h2; have HF2 : Hid (∀ k, F2 k → w.heap.size ≤ k) := Lib.hid (fun k hk => by have h0 := HO.out.size; rcases hf2 k hk with h | h; exact HF.out k h; omega); have O2 : Hid (Only (fun _ => False) w w2) := Lib.hid (HO.out.then_ o2 (fun k hk => .inr (HF.out k hk))); clear k2 h2 hf2 o2)
        obtain ⟨out, hout⟩ : ∃ out, out = outK e1 (added l) := ⟨_, rfl⟩
        rw [← hout] at K2 HRN
        obtain ⟨K1, hK1⟩ : ∃ K1, K1 = restK e1 (added l) := ⟨_, rfl⟩
        rw [← hK1] at H2 HRN
        have HOL : Hid (out.length ≤ 100) := Lib.hid (by have h1 := out_len e1 (added l); rw [← hout, added_len] at h1; have h2 := HN.out; have h3 := HB.out; omega)
        obtain ⟨A2, c2, hv, _⟩ := Row.form K2.out
        obtain ⟨m, hm⟩ : ∃ m, m = out.length := ⟨_, rfl⟩
        rw [← hm] at hv
        subst hv
        have HM := Lib.hid hm
        clear hm hout hK1 HAV
        go_upto_region 14 with fail
        go_loopw [15, 16] (fun v15 v16 wr => ∃ (i : Nat) (b : Bool), v16 = .int .i64 (i : Int) ∧ v15 = .bool b ∧ i ≤ m ∧ Hid (b = decide ((a : Int) + 1 ∈ out.take i)) ∧ wr = w2) (fun _ v16 _ => m - (RowKit.intOf v16).toNat)
        case atStart => exact ⟨0, false, rfl, rfl, Nat.zero_le _, Lib.hid (by simp), rfl⟩
        case round =>
          obtain ⟨i, b, rfl, rfl, hi, HBI, rfl⟩ := hrel
          have hgo2 : i < m ∨ i = m := by omega
          rcases hgo2 with hlt | rfl
          · have hlt' : (i : Int) < (m : Int) := by omega
            have hmB : m ≤ 100 := by rw [HM.out]; exact HOL.out
            have hio : i < out.length := by rw [← HM.out]; exact hlt
            have hge : out[i]? = some out[i] := List.getElem?_eq_getElem hio
            obtain ⟨h0, hh0⟩ : ∃ h0, h0 = out[i] := ⟨_, rfl⟩
            rw [← hh0] at hge
            have HTK : Hid (out.take (i + 1) = out.take i ++ [h0]) := Lib.hid (by rw [List.take_add_one, hge]; rfl)
            have hKr := K2.out
            unfold Ks at hKr
            rw [← HM.out] at hKr
            obtain ⟨q2, o2, c3, hs, _⟩ := Row.some_ hKr (by omega)
            injection hs with s1 s2 s3
            subst s1 s3
            have hx0 : wr.cell? ⟨q2, o2 + i, none⟩ = some (.int .i64 h0) := Row.cell hKr i (by rw [List.getElem?_map, hge]; rfl)
            clear hge hh0 hKr hio
            cases b with
            | true =>
              go_wp2
              go_roundw
              case rel => exact ⟨i + 1, true, by go_num, rfl, by omega, Lib.hid (by rw [HTK.out]; exact (decide_eq_true (List.mem_append.2 (.inl (of_decide_eq_true HBI.out.symm)))).symm), trivial⟩
              case measure => simp [RowKit.intOf]; omega
            | false =>
              have hnin : (a : Int) + 1 ∉ out.take i := of_decide_eq_false HBI.out.symm
              have HB2 : Hid ((h0 == (a : Int) + 1) = decide ((a : Int) + 1 ∈ out.take (i + 1))) := Lib.hid (by
                rw [HTK.out]
                by_cases e : h0 = (a : Int) + 1
                · rw [e, decide_eq_true (List.mem_append.2 (.inr (List.mem_singleton.2 rfl)))]
                  simp
                · rw [decide_eq_false (fun hm => by
                    rcases List.mem_append.1 hm with h1 | h1
                    · exact hnin h1
                    · exact e (List.mem_singleton.1 h1).symm)]
                  simpa using e)
              clear hnin
              go_wp2
              go_roundw
              case rel => exact ⟨i + 1, _, by go_num, rfl, by omega, HB2, trivial⟩
              case measure => simp [RowKit.intOf]; omega
          · have hge2 : ¬ (i : Int) < i := by omega
            have HBB : Hid (b = decide ((a : Int) + 1 ∈ out)) := Lib.hid (by have h := HBI.out; rw [HM.out, List.take_length] at h; exact h)
            have hwf : (Lit.int .i64 ((a : Int) + 1)).wf = true := wf64 (by omega) (by omega)
            have HWF := Lib.hid hwf
            have hc1 := wh_cancel ((a : Int) + 1) hwf H2.out
            obtain ⟨b1, hb1⟩ : ∃ b1, b1 = decide ((a : Int) + 1 ∈ K1.map Prod.snd) := ⟨_, rfl⟩
            have hbb : (b1 == b) = false := by
              rw [hb1, HBB.out]
              have h1 := HRN.out
              by_cases h2 : (a : Int) + 1 ∈ out
              · rw [decide_eq_true h2, decide_eq_false (fun h3 => h1.1 h3 h2)]
                rfl
              · rw [decide_eq_false h2, decide_eq_true (h1.2 h2)]
                rfl
            rw [← hb1] at hc1
            have HC1 := Lib.hid hc1
            obtain ⟨K2', hK2⟩ : ∃ K2', K2' = K1.filter (fun p => decide (p.2 ≠ (a : Int) + 1)) := ⟨_, rfl⟩
            rw [← hK2] at HC1
            have HNI : Hid ((a : Int) + 1 ∉ K2'.map Prod.snd) := Lib.hid (fun h => by
              obtain ⟨p, hp, he⟩ := List.mem_map.1 h
              rw [hK2] at hp
              exact of_decide_eq_true (List.mem_filter.1 hp).2 he)
            clear hwf hc1 hb1 hK2
            go_upto_region 19 with (first
              | (go_at_call 18; with_reducible refine HC2.out.mono ?_; rintro e w4 ⟨rfl, F4, h4, hf4, o4⟩
                 have H4 := Lib.hid h4
                 have HF4 : Hid (∀ k, F4 k → w.heap.size ≤ k) := Lib.hid (fun k hk => by have h0 := O3.out.size; rcases hf4 k hk with h | h; exact HF3.out k h; omega)
                 have O4 : Hid (Only (fun _ => False) w w4) := Lib.hid (O3.out.then_ o4 (fun k hk => .inr (HF3.out k hk)))
                 clear h4 hf4 o4)
              | (go_at_call 18; with_reducible refine HC1.out.mono ?_; rintro e w3 ⟨rfl, F3, h3, hf3, o3⟩
                 have HF3 : Hid (∀ k, F3 k → w.heap.size ≤ k) := Lib.hid (fun k hk => by have h0 := O2.out.size; rcases hf3 k hk with h | h; exact HF2.out k h; omega)
                 have O3 : Hid (Only (fun _ => False) w w3) := Lib.hid (O2.out.then_ o3 (fun k hk => .inr (HF2.out k hk)))
                 have hc2 := wh_cancel ((a : Int) + 1) HWF.out h3
                 rw [decide_eq_false HNI.out] at hc2
                 have HC2 := Lib.hid hc2
                 clear h3 hf3 o3 hc2))
            obtain ⟨e2, he2⟩ : ∃ e2, e2 = mx (cl to_) e1 := ⟨_, rfl⟩
            have HAV2 := Lib.hid (wh_adv to_ H4.out he2)
            obtain ⟨out2, hout2⟩ : ∃ out2, out2 = outK e2 (K2'.filter (fun p => decide (p.2 ≠ (a : Int) + 1))) := ⟨_, rfl⟩
            rw [← hout2] at HAV2
            have HNO : Hid (∀ h ∈ out2, h ≠ (a : Int) + 1) := Lib.hid (fun h hm => by
              rw [hout2] at hm
              obtain ⟨y, hy, _⟩ := out_mem.1 hm
              exact of_decide_eq_true (List.mem_filter.1 hy).2)
            have HOL2 : Hid (out2.length ≤ 4096) := Lib.hid (by
              have h1 := out_len e2 (K2'.filter (fun p => decide (p.2 ≠ (a : Int) + 1)))
              rw [← hout2] at h1
              have h2 : (K2'.filter (fun p => decide (p.2 ≠ (a : Int) + 1))).length ≤ 4096 := by obtain ⟨_, _, _, _, _, _, _, _, _, h6⟩ := H4.out; exact h6
              omega)
            clear he2 hout2 HC1 HC2
            go_upto_region 20 with (go_at_call 12; refine HAV2.out.mono ?_; rintro en w5 ⟨v5, F5, rfl, k5, h5, hf5, o5⟩; have K5 := Lib.hid k5; have O5 : Hid (Only (fun _ => False) w w5) := Lib.hid (O4.out.then_ o5 (fun k hk => .inr (HF4.out k hk))); clear k5 h5 hf5 o5)
            obtain ⟨A5, c5, hv5, _⟩ := Row.form K5.out
            obtain ⟨m2, hm2⟩ : ∃ m2, m2 = out2.length := ⟨_, rfl⟩
            rw [← hm2] at hv5
            subst hv5
            have HM2 := Lib.hid hm2
            clear hm2 HAV2
            go_upto_region 21 with fail
            go_loopw [18] (fun v18 wr => ∃ (i : Nat), v18 = .int .i64 (i : Int) ∧ i ≤ m2 ∧ wr = w5) (fun v18 _ => m2 - (RowKit.intOf v18).toNat)
            case atStart => exact ⟨0, rfl, Nat.zero_le _, rfl⟩
            case round =>
              obtain ⟨i2, rfl, hi2, rfl⟩ := hrel
              have hgo3 : i2 < m2 ∨ i2 = m2 := by omega
              rcases hgo3 with hlt3 | rfl
              · have hlt3' : (i2 : Int) < (m2 : Int) := by omega
                have hmB : m2 ≤ 4096 := by rw [HM2.out]; exact HOL2.out
                have hio : i2 < out2.length := by rw [← HM2.out]; exact hlt3
                have hge3 : out2[i2]? = some out2[i2] := List.getElem?_eq_getElem hio
                have hne3 := HNO.out _ (List.getElem_mem hio)
                obtain ⟨h0, hh0⟩ : ∃ h0, h0 = out2[i2] := ⟨_, rfl⟩
                rw [← hh0] at hge3 hne3
                have hKr := K5.out
                unfold Ks at hKr
                rw [← HM2.out] at hKr
                obtain ⟨q2, o2, c3, hs, _⟩ := Row.some_ hKr (by omega)
                injection hs with s1 s2 s3
                subst s1 s3
                have hx0 : wr.cell? ⟨q2, o2 + i2, none⟩ = some (.int .i64 h0) := Row.cell hKr i2 (by rw [List.getElem?_map, hge3]; rfl)
                have hb0 : (h0 == (a : Int) + 1) = false := by simpa using hne3
                clear hge3 hh0 hKr hio hne3
                go_wp2
                go_roundw
                case rel => exact ⟨i2 + 1, by go_num, by omega, trivial⟩
                case measure => simp [RowKit.intOf]; omega
              · have hge3 : ¬ (i2 : Int) < i2 := by omega
                go_wp2_with (first
                  | (go_at_call 11; refine (add_nil _ _).mono ?_; rintro e w' ⟨rfl, rfl⟩)
                  | (go_at_call 20; refine (time_nil _ _).mono ?_; rintro e w' ⟨rfl, rfl⟩)
                  | (go_at_call 17; refine (first_nil _).mono ?_; rintro e w' ⟨rfl, rfl⟩)
                  | (go_at_call 18; refine (cancel_nil _ _).mono ?_; rintro e w' ⟨rfl, rfl⟩)
                  | (go_at_call 12; refine (adv_nil _ _).mono ?_; rintro e w' ⟨rfl, rfl⟩)
                  | (go_at_call 14; refine (len_nil _).mono ?_; rintro e w' ⟨rfl, rfl⟩)
                  | (go_at_call 15; refine (now_nil _).mono ?_; rintro e w' ⟨rfl, rfl⟩)
                  | (go_at_call 9; refine (HAW.out _).mono ?_; rintro e w6 ⟨rfl, o6⟩; have O6 := Lib.hid o6; clear o6))
                go_ret
                exact ⟨rfl, below_of (O5.out.trans O6.out)⟩
  · go_upto_region 6 with fail
    go_wp2_with (go_at_call 10; refine HNW.out.mono ?_; rintro e w1 ⟨g, F, rfl, h1, hf, o1⟩; have H1 := Lib.hid h1; have HF := Lib.hid hf; have O1 := Lib.hid o1; clear h1 hf o1)
    go_loopw [13] (fun v13 wr => ∃ (j : Nat) (Fj : Nat → Prop), v13 = .int .i64 (j : Int) ∧ j ≤ n ∧ Hid (WH wr g Fj (cl now) (j : Int) (added (l.take j))) ∧ Hid (∀ k, Fj k → w.heap.size ≤ k) ∧ Hid (Only (fun _ => False) w wr)) (fun v13 _ => n - (RowKit.intOf v13).toNat)
    case atStart => exact ⟨0, F, rfl, Nat.zero_le _, H1, HF, O1⟩
    case round =>
      clear H1 HF O1 HNW
      obtain ⟨j, Fj, rfl, hj, HH, HF, HO⟩ := hrel
      have hgo : j < n ∨ j = n := by omega
      rcases hgo with hlt | rfl
      · have hlt' : (j : Int) < (n : Int) := by omega
        have hNb := HB.out
        obtain ⟨ad, rfl, hx⟩ := Kd.at_int HL.out (j : Int) (by omega) hlt'
        rw [Int.toNat_natCast] at hx
        have hxr : wr.cell? (ad.add j) = some (.int .i64 (rd l (j : Int))) := by
          have := (HO.out.below (Below.refl _ _) (Nat.le_refl _) (fun _ h => h.elim)).cell (World.block_lt_of_cell? w _ hx)
          rw [hx] at this
          exact this
        have hxx := rd_at (l := l) (j := j) (by rw [← HN.out]; exact hlt)
        obtain ⟨x, hxe⟩ : ∃ x, x = rd l (j : Int) := ⟨_, rfl⟩
        rw [← hxe] at hxr hxx
        have HAD := Lib.hid (wh_add x HH.out (by rw [added_len, List.length_take]; omega) (by omega))
        rw [← added_step hxx] at HAD
        clear hx hxx hxe
        go_wp2_with (go_at_call 11; refine HAD.out.mono ?_; rintro e w2 ⟨rfl, F2, h2, hf2, o2⟩; have H2 := Lib.hid h2; have HF2 : Hid (∀ k, F2 k → w.heap.size ≤ k) := Lib.hid (fun k hk => by have h0 := HO.out.size; rcases hf2 k hk with h | h; exact HF.out k h; omega); have O2 : Hid (Only (fun _ => False) w w2) := Lib.hid (HO.out.then_ o2 (fun k hk => .inr (HF.out k hk))); clear h2 hf2 o2)
        go_roundw
        case rel => exact ⟨j + 1, F2, by go_num, by omega, H2, HF2, O2⟩
        case measure => simp [RowKit.intOf]; omega
      · have hge : ¬ (j : Int) < j := by omega
        have hh := HH.out
        rw [HN.out, List.take_length, ← HN.out] at hh
        have HH' := Lib.hid hh
        obtain ⟨e1, he1⟩ : ∃ e, e = mx (cl mid) (cl now) := ⟨_, rfl⟩
        have HAV := Lib.hid (wh_adv mid hh he1)
        have hin0 : (a : Int) + 1 ∈ (added l).map Prod.snd := List.mem_map.2 ⟨(cl (rd l (a : Int)), (a : Int) + 1), added_mem.2 ⟨a, rd l (a : Int), rd_at (by rw [← HN.out]; exact HAN.out), rfl⟩, rfl⟩
        have HRN := Lib.hid (rest_name (e := e1) hh.nd hin0)
        clear hh HH he1 hin0
        go_upto_region 12 with (go_at_call 12; refine HAV.out.mono ?_; rintro en w2 ⟨v, F2, rfl, k2, h2, hf2, o2⟩; have K2 := Lib.hid k2; have H2 := Lib.hid h2; have HF2 : Hid (∀ k, F2 k → w.heap.size ≤ k) := Lib.hid (fun k hk => by have h0 := HO.out.size; rcases hf2 k hk with h | h; exact HF.out k h; omega); have O2 : Hid (Only (fun _ => False) w w2) := Lib.hid (HO.out.then_ o2 (fun k hk => .inr (HF.out k hk))); clear k2 h2 hf2 o2)
        obtain ⟨out, hout⟩ : ∃ out, out = outK e1 (added l) := ⟨_, rfl⟩
        rw [← hout] at K2 HRN
        obtain ⟨K1, hK1⟩ : ∃ K1, K1 = restK e1 (added l) := ⟨_, rfl⟩
        rw [← hK1] at H2 HRN
        have HOL : Hid (out.length ≤ 100) := Lib.hid (by have h1 := out_len e1 (added l); rw [← hout, added_len] at h1; have h2 := HN.out; have h3 := HB.out; omega)
        obtain ⟨A2, c2, hv, _⟩ := Row.form K2.out
        obtain ⟨m, hm⟩ : ∃ m, m = out.length := ⟨_, rfl⟩
        rw [← hm] at hv
        subst hv
        have HM := Lib.hid hm
        clear hm hout hK1 HAV
        go_upto_region 14 with fail
        go_loopw [15, 16] (fun v15 v16 wr => ∃ (i : Nat) (b : Bool), v16 = .int .i64 (i : Int) ∧ v15 = .bool b ∧ i ≤ m ∧ Hid (b = decide ((a : Int) + 1 ∈ out.take i)) ∧ wr = w2) (fun _ v16 _ => m - (RowKit.intOf v16).toNat)
        case atStart => exact ⟨0, false, rfl, rfl, Nat.zero_le _, Lib.hid (by simp), rfl⟩
        case round =>
          obtain ⟨i, b, rfl, rfl, hi, HBI, rfl⟩ := hrel
          have hgo2 : i < m ∨ i = m := by omega
          rcases hgo2 with hlt | rfl
          · have hlt' : (i : Int) < (m : Int) := by omega
            have hmB : m ≤ 100 := by rw [HM.out]; exact HOL.out
            have hio : i < out.length := by rw [← HM.out]; exact hlt
            have hge : out[i]? = some out[i] := List.getElem?_eq_getElem hio
            obtain ⟨h0, hh0⟩ : ∃ h0, h0 = out[i] := ⟨_, rfl⟩
            rw [← hh0] at hge
            have HTK : Hid (out.take (i + 1) = out.take i ++ [h0]) := Lib.hid (by rw [List.take_add_one, hge]; rfl)
            have hKr := K2.out
            unfold Ks at hKr
            rw [← HM.out] at hKr
            obtain ⟨q2, o2, c3, hs, _⟩ := Row.some_ hKr (by omega)
            injection hs with s1 s2 s3
            subst s1 s3
            have hx0 : wr.cell? ⟨q2, o2 + i, none⟩ = some (.int .i64 h0) := Row.cell hKr i (by rw [List.getElem?_map, hge]; rfl)
            clear hge hh0 hKr hio
            cases b with
            | true =>
              go_wp2
              go_roundw
              case rel => exact ⟨i + 1, true, by go_num, rfl, by omega, Lib.hid (by rw [HTK.out]; exact (decide_eq_true (List.mem_append.2 (.inl (of_decide_eq_true HBI.out.symm)))).symm), trivial⟩
              case measure => simp [RowKit.intOf]; omega
            | false =>
              have hnin : (a : Int) + 1 ∉ out.take i := of_decide_eq_false HBI.out.symm
              have HB2 : Hid ((h0 == (a : Int) + 1) = decide ((a : Int) + 1 ∈ out.take (i + 1))) := Lib.hid (by
                rw [HTK.out]
                by_cases e : h0 = (a : Int) + 1
                · rw [e, decide_eq_true (List.mem_append.2 (.inr (List.mem_singleton.2 rfl)))]
                  simp
                · rw [decide_eq_false (fun hm => by
                    rcases List.mem_append.1 hm with h1 | h1
                    · exact hnin h1
                    · exact e (List.mem_singleton.1 h1).symm)]
                  simpa using e)
              clear hnin
              go_wp2
              go_roundw
              case rel => exact ⟨i + 1, _, by go_num, rfl, by omega, HB2, trivial⟩
              case measure => simp [RowKit.intOf]; omega
          · have hge2 : ¬ (i : Int) < i := by omega
            have HBB : Hid (b = decide ((a : Int) + 1 ∈ out)) := Lib.hid (by have h := HBI.out; rw [HM.out, List.take_length] at h; exact h)
            have hwf : (Lit.int .i64 ((a : Int) + 1)).wf = true := wf64 (by omega) (by omega)
            have HWF := Lib.hid hwf
            have hc1 := wh_cancel ((a : Int) + 1) hwf H2.out
            obtain ⟨b1, hb1⟩ : ∃ b1, b1 = decide ((a : Int) + 1 ∈ K1.map Prod.snd) := ⟨_, rfl⟩
            have hbb : (b1 == b) = false := by
              rw [hb1, HBB.out]
              have h1 := HRN.out
              by_cases h2 : (a : Int) + 1 ∈ out
              · rw [decide_eq_true h2, decide_eq_false (fun h3 => h1.1 h3 h2)]
                rfl
              · rw [decide_eq_false h2, decide_eq_true (h1.2 h2)]
                rfl
            rw [← hb1] at hc1
            have HC1 := Lib.hid hc1
            obtain ⟨K2', hK2⟩ : ∃ K2', K2' = K1.filter (fun p => decide (p.2 ≠ (a : Int) + 1)) := ⟨_, rfl⟩
            rw [← hK2] at HC1
            have HNI : Hid ((a : Int) + 1 ∉ K2'.map Prod.snd) := Lib.hid (fun h => by
              obtain ⟨p, hp, he⟩ := List.mem_map.1 h
              rw [hK2] at hp
              exact of_decide_eq_true (List.mem_filter.1 hp).2 he)
            clear hwf hc1 hb1 hK2
            go_upto_region 19 with (first
              | (go_at_call 18; with_reducible refine HC2.out.mono ?_; rintro e w4 ⟨rfl, F4, h4, hf4, o4⟩
                 have H4 := Lib.hid h4
                 have HF4 : Hid (∀ k, F4 k → w.heap.size ≤ k) := Lib.hid (fun k hk => by have h0 := O3.out.size; rcases hf4 k hk with h | h; exact HF3.out k h; omega)
                 have O4 : Hid (Only (fun _ => False) w w4) := Lib.hid (O3.out.then_ o4 (fun k hk => .inr (HF3.out k hk)))
                 clear h4 hf4 o4)
              | (go_at_call 18; with_reducible refine HC1.out.mono ?_; rintro e w3 ⟨rfl, F3, h3, hf3, o3⟩
                 have HF3 : Hid (∀ k, F3 k → w.heap.size ≤ k) := Lib.hid (fun k hk => by have h0 := O2.out.size; rcases hf3 k hk with h | h; exact HF2.out k h; omega)
                 have O3 : Hid (Only (fun _ => False) w w3) := Lib.hid (O2.out.then_ o3 (fun k hk => .inr (HF2.out k hk)))
                 have hc2 := wh_cancel ((a : Int) + 1) HWF.out h3
                 rw [decide_eq_false HNI.out] at hc2
                 have HC2 := Lib.hid hc2
                 clear h3 hf3 o3 hc2))
            obtain ⟨e2, he2⟩ : ∃ e2, e2 = mx (cl to_) e1 := ⟨_, rfl⟩
            have HAV2 := Lib.hid (wh_adv to_ H4.out he2)
            obtain ⟨out2, hout2⟩ : ∃ out2, out2 = outK e2 (K2'.filter (fun p => decide (p.2 ≠ (a : Int) + 1))) := ⟨_, rfl⟩
            rw [← hout2] at HAV2
            have HNO : Hid (∀ h ∈ out2, h ≠ (a : Int) + 1) := Lib.hid (fun h hm => by
              rw [hout2] at hm
              obtain ⟨y, hy, _⟩ := out_mem.1 hm
              exact of_decide_eq_true (List.mem_filter.1 hy).2)
            have HOL2 : Hid (out2.length ≤ 4096) := Lib.hid (by
              have h1 := out_len e2 (K2'.filter (fun p => decide (p.2 ≠ (a : Int) + 1)))
              rw [← hout2] at h1
              have h2 : (K2'.filter (fun p => decide (p.2 ≠ (a : Int) + 1))).length ≤ 4096 := by obtain ⟨_, _, _, _, _, _, _, _, _, h6⟩ := H4.out; exact h6
              omega)
            clear he2 hout2 HC1 HC2
            go_upto_region 20 with (go_at_call 12; refine HAV2.out.mono ?_; rintro en w5 ⟨v5, F5, rfl, k5, h5, hf5, o5⟩; have K5 := Lib.hid k5; have O5 : Hid (Only (fun _ => False) w w5) := Lib.hid (O4.out.then_ o5 (fun k hk => .inr (HF4.out k hk))); clear k5 h5 hf5 o5)
            obtain ⟨A5, c5, hv5, _⟩ := Row.form K5.out
            obtain ⟨m2, hm2⟩ : ∃ m2, m2 = out2.length := ⟨_, rfl⟩
            rw [← hm2] at hv5
            subst hv5
            have HM2 := Lib.hid hm2
            clear hm2 HAV2
            go_upto_region 21 with fail
            go_loopw [18] (fun v18 wr => ∃ (i : Nat), v18 = .int .i64 (i : Int) ∧ i ≤ m2 ∧ wr = w5) (fun v18 _ => m2 - (RowKit.intOf v18).toNat)
            case atStart => exact ⟨0, rfl, Nat.zero_le _, rfl⟩
            case round =>
              obtain ⟨i2, rfl, hi2, rfl⟩ := hrel
              have hgo3 : i2 < m2 ∨ i2 = m2 := by omega
              rcases hgo3 with hlt3 | rfl
              · have hlt3' : (i2 : Int) < (m2 : Int) := by omega
                have hmB : m2 ≤ 4096 := by rw [HM2.out]; exact HOL2.out
                have hio : i2 < out2.length := by rw [← HM2.out]; exact hlt3
                have hge3 : out2[i2]? = some out2[i2] := List.getElem?_eq_getElem hio
                have hne3 := HNO.out _ (List.getElem_mem hio)
                obtain ⟨h0, hh0⟩ : ∃ h0, h0 = out2[i2] := ⟨_, rfl⟩
                rw [← hh0] at hge3 hne3
                have hKr := K5.out
                unfold Ks at hKr
                rw [← HM2.out] at hKr
                obtain ⟨q2, o2, c3, hs, _⟩ := Row.some_ hKr (by omega)
                injection hs with s1 s2 s3
                subst s1 s3
                have hx0 : wr.cell? ⟨q2, o2 + i2, none⟩ = some (.int .i64 h0) := Row.cell hKr i2 (by rw [List.getElem?_map, hge3]; rfl)
                have hb0 : (h0 == (a : Int) + 1) = false := by simpa using hne3
                clear hge3 hh0 hKr hio hne3
                go_wp2
                go_roundw
                case rel => exact ⟨i2 + 1, by go_num, by omega, trivial⟩
                case measure => simp [RowKit.intOf]; omega
              · have hge3 : ¬ (i2 : Int) < i2 := by omega
                go_wp2_with (first
                  | (go_at_call 11; refine (add_nil _ _).mono ?_; rintro e w' ⟨rfl, rfl⟩)
                  | (go_at_call 20; refine (time_nil _ _).mono ?_; rintro e w' ⟨rfl, rfl⟩)
                  | (go_at_call 17; refine (first_nil _).mono ?_; rintro e w' ⟨rfl, rfl⟩)
                  | (go_at_call 18; refine (cancel_nil _ _).mono ?_; rintro e w' ⟨rfl, rfl⟩)
                  | (go_at_call 12; refine (adv_nil _ _).mono ?_; rintro e w' ⟨rfl, rfl⟩)
                  | (go_at_call 14; refine (len_nil _).mono ?_; rintro e w' ⟨rfl, rfl⟩)
                  | (go_at_call 15; refine (now_nil _).mono ?_; rintro e w' ⟨rfl, rfl⟩)
                  | (go_at_call 9; refine (HAW.out _).mono ?_; rintro e w6 ⟨rfl, o6⟩; have O6 := Lib.hid o6; clear o6))
                go_ret
                exact ⟨rfl, below_of (O5.out.trans O6.out)⟩

end Go.Proofs.Ytkjokpmlnnjmoaa.Wh

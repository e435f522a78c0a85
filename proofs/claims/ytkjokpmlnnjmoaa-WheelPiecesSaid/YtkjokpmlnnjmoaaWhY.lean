/- Wheel: no wheel has more than 4096 times; the earliest time is first. -/
import Derived.Test.YtkjokpmlnnjmoaaWhX
set_option linter.unusedVariables false
set_option linter.unusedSimpArgs false
namespace Go.Proofs.Ytkjokpmlnnjmoaa.Wh
open Go.RowKit Go.Maps Go.Proofs.Ytkjokpmlnnjmoaa.Base Go.Proofs.Ytkjokpmlnnjmoaa.Rws Go.Proofs.YtkjokpmlnnjmoaaW.PrintWords Go.Proofs.YtkjokpmlnnjmoaaW.PrintMore
attribute [local go_sem] max2_mx min2_mn max_two min_two max_three min_three max_four min_four

theorem gone_len {K : List (Int × Int)} {k : Int} (hn : (K.map Prod.snd).Nodup) (hk : k ∈ K.map Prod.snd) : (K.filter (fun p => decide (p.2 ≠ k))).length + 1 = K.length := by
  obtain ⟨i, hi, he⟩ := List.getElem_of_mem hk
  have h := cut_eq hn (i := i) (h := k) (by rw [List.getElem?_eq_getElem hi, he])
  have h2 : ((K.map Prod.snd).filter (fun x => decide (x ≠ k))).length = (K.filter (fun p => decide (p.2 ≠ k))).length := by
    rw [List.filter_map, List.length_map]
    rfl
  rw [← h2, ← h, List.length_append, List.length_take, List.length_drop]
  rw [List.length_map] at hi ⊢
  omega

set_option maxHeartbeats 8000000 in
set_option maxRecDepth 100000 in
theorem full_walk (x : Int) (w : World) : Calls Try.prog 6 #[.int .i64 x] w fun e w' => e = .returned (.bool true) ∧ Below w.heap.size w w' := by
  have HAW : Hid (∀ w, Calls Try.prog 9 #[] w fun e w' => e = .returned (.bool true) ∧ Only (fun _ => False) w w') := Lib.hid awake_p
  have HNW := Lib.hid (wh_new 0 w)
  obtain ⟨l, hl⟩ : ∃ l, l = List.replicate 4096 x := ⟨_, rfl⟩
  have HLL : Hid (l.length = 4096) := Lib.hid (by rw [hl, List.length_replicate])
  have HLA : Hid (∀ j, j < 4096 → l[j]? = some x) := Lib.hid (fun j hj => by rw [hl, List.getElem?_replicate, if_pos hj])
  clear hl
  go_enter Try.func6, Try.ntmps6
  go_wp2_with (go_at_call 10; refine HNW.out.mono ?_; rintro e w1 ⟨g, F, rfl, h1, hf, o1⟩; have H1 := Lib.hid h1; have HF := Lib.hid hf; have O1 := Lib.hid o1; clear h1 hf o1)
  go_loopw [4, 5, 6] (fun v4 _ _ wr => ∃ (j : Nat) (Fj : Nat → Prop), v4 = .int .i64 (j : Int) ∧ j ≤ 4096 ∧ Hid (WH wr g Fj (cl 0) (j : Int) (added (l.take j))) ∧ Hid (∀ k, Fj k → w.heap.size ≤ k) ∧ Hid (Only (fun _ => False) w wr)) (fun v4 _ _ _ => 4096 - (RowKit.intOf v4).toNat)
  case atStart => exact ⟨0, F, rfl, Nat.zero_le _, H1, HF, O1⟩
  case round =>
    clear H1 HF O1 HNW
    obtain ⟨j, Fj, rfl, hj, HH, HF, HO⟩ := hrel
    have hgo : j < 4096 ∨ j = 4096 := by omega
    rcases hgo with hlt | rfl
    · have hlt' : (j : Int) < 4096 := by omega
      have hxx := HLA.out j hlt
      have HAD := Lib.hid (wh_add x HH.out (by rw [added_len, List.length_take]; omega) (by omega))
      rw [← added_step hxx] at HAD
      clear hxx
      go_upto_region 6 with (go_at_call 11; refine HAD.out.mono ?_; rintro e w2 ⟨rfl, F2, h2, hf2, o2⟩; have H2 := Lib.hid h2; have HF2 : Hid (∀ k, F2 k → w.heap.size ≤ k) := Lib.hid (fun k hk => by have h0 := HO.out.size; rcases hf2 k hk with h | h; exact HF.out k h; omega); have O2 : Hid (Only (fun _ => False) w w2) := Lib.hid (HO.out.then_ o2 (fun k hk => .inr (HF.out k hk))); clear h2 hf2 o2)
      go_wp2
      go_roundw
      case rel => exact ⟨j + 1, F2, by go_num, by omega, H2, HF2, O2⟩
      case measure => simp [RowKit.intOf]; omega
    · rw [show ((4096 : Nat) : Int) = (4096 : Int) from rfl]
      have hh : WH wr g Fj (cl 0) 4096 (added l) := by
        have h := HH.out
        rw [← HLL.out, List.take_length] at h
        rw [HLL.out] at h
        exact h
      have hlen : (added l).length = 4096 := by rw [added_len]; exact HLL.out
      have h7 : (7 : Int) ∈ (added l).map Prod.snd := List.mem_map.2 ⟨(cl x, 7), added_mem.2 ⟨6, x, HLA.out 6 (by decide), rfl⟩, rfl⟩
      have HFU := Lib.hid (wh_full x hh hlen)
      have hca := wh_cancel 7 (by decide) hh
      rw [decide_eq_true h7] at hca
      have HCA := Lib.hid hca
      have hgl := gone_len hh.nd h7
      rw [hlen] at hgl
      obtain ⟨K', hK'⟩ : ∃ K', K' = (added l).filter (fun p => decide (p.2 ≠ 7)) := ⟨_, rfl⟩
      rw [← hK'] at hgl HCA
      have HKL : Hid (K'.length = 4095) := Lib.hid (by omega)
      clear hh hlen h7 hca hgl hK' HH
      go_upto_region 9 with (go_at_call 11; refine HFU.out.mono ?_; rintro e w2 ⟨rfl, rfl⟩)
      go_upto_region 11 with (go_at_call 18; refine HCA.out.mono ?_; rintro e w2 ⟨rfl, F2, h2, hf2, o2⟩; have H2 := Lib.hid h2; have HF2 : Hid (∀ k, F2 k → w.heap.size ≤ k) := Lib.hid (fun k hk => by have h0 := HO.out.size; rcases hf2 k hk with h | h; exact HF.out k h; omega); have O2 : Hid (Only (fun _ => False) w w2) := Lib.hid (HO.out.then_ o2 (fun k hk => .inr (HF.out k hk))); clear h2 hf2 o2)
      have HAD := Lib.hid (wh_add x H2.out (by rw [HKL.out]; decide) (by decide))
      go_upto_region 12 with (go_at_call 11; refine HAD.out.mono ?_; rintro e w3 ⟨rfl, F3, h3, hf3, o3⟩; have H3 := Lib.hid h3; have O3 : Hid (Only (fun _ => False) w w3) := Lib.hid (O2.out.then_ o3 (fun k hk => .inr (HF2.out k hk))); clear h3 hf3 o3)
      have hle := wh_len H3.out
      rw [List.length_append, HKL.out] at hle
      have HLE : Hid (Calls Try.prog 14 #[.pointer (some ⟨g, 0, none⟩)] w3 fun e w' => e = .returned (.int .i64 4096) ∧ w3 = w') := Lib.hid hle
      clear hle
      go_wp2_with (first | (go_at_call 14; refine HLE.out.mono ?_; rintro e w' ⟨rfl, rfl⟩) | (go_at_call 9; refine (HAW.out _).mono ?_; rintro e w6 ⟨rfl, o6⟩; have O6 := Lib.hid o6; clear o6))
      go_ret
      exact ⟨rfl, below_of (O3.out.trans O6.out)⟩

theorem out_none {e : Int} {K : List (Int × Int)} (h : ∀ p ∈ K, e < p.1) : outK e K = [] ∧ restK e K = K := by
  refine ⟨?_, List.filter_eq_self.2 (fun p hp => decide_eq_true (h p hp))⟩
  unfold outK
  rw [List.filter_eq_nil_iff.2 (fun p hp => by have := h p hp; simp; omega)]
  have : sortK [] = [] := (sortK_of (K := []) (K' := []) (.refl _) .nil).symm
  rw [this]
  rfl

/-- The first that is told, where the earliest time is t. -/
theorem out_first {e t : Int} {l : List Int} (hle : t ≤ e) (hall : ∀ p ∈ added l, t ≤ p.1) (hex : ∃ p ∈ added l, t = p.1) : ∃ (h : Int) (r : List Int) (j : Nat) (x : Int), outK e (added l) = h :: r ∧ l[j]? = some x ∧ h = (j : Int) + 1 ∧ cl x = t := by
  obtain ⟨p, hp, rfl⟩ := hex
  have hm : p.2 ∈ outK e (added l) := out_mem.2 ⟨p.1, hp, hle⟩
  cases ho : outK e (added l) with
  | nil => rw [ho] at hm; cases hm
  | cons h r =>
    obtain ⟨j, x, hj, hh, hx⟩ := out_added.1 (show h ∈ outK e (added l) by rw [ho]; simp)
    refine ⟨h, r, j, x, rfl, hj, hh, ?_⟩
    have h1 : cl x ≤ p.1 := by
      have hr := out_rise (e := e) (tm l) (added_tm (l := l))
      rw [ho] at hr hm
      rw [List.pairwise_cons] at hr
      have ht : tm l h = cl x := by rw [hh]; exact tm_at hj
      rcases List.mem_cons.1 hm with h2 | h2
      · rw [← ht, ← h2, ← added_tm p hp]
        exact Int.le_refl _
      · have := hr.1 _ h2
        rw [ht, ← added_tm p hp] at this
        exact this
    have h2 := hall _ (added_mem.2 ⟨j, x, hj, rfl⟩)
    simp only at h2
    omega

set_option maxHeartbeats 8000000 in
set_option maxRecDepth 100000 in
theorem first_walk (now : Int) (l : List Int) (A : Option Addr) (c : Nat) (w : World) (hl : Kd.C KI w A l.length l) (hc : l.length ≤ c) :
    Calls Try.prog 5 #[.int .i64 now, .slice A l.length c] w fun e w' => e = .returned (.bool true) ∧ Below w.heap.size w w' := by
  have HAW : Hid (∀ w, Calls Try.prog 9 #[] w fun e w' => e = .returned (.bool true) ∧ Only (fun _ => False) w w') := Lib.hid awake_p
  obtain ⟨n, hn⟩ : ∃ n, n = l.length := ⟨_, rfl⟩
  rw [← hn] at hl hc ⊢
  by_cases h00 : n = 0
  · have hd0 : ((n : Int) == (0 : Int)) = true := by simp [h00]
    clear hl hc hn h00
    go_enter Try.func5, Try.ntmps5
    go_wp2_with (go_at_call 9; refine (HAW.out _).mono ?_; rintro e w1 ⟨rfl, o1⟩; have O1 := Lib.hid o1; clear o1)
    go_ret
    exact ⟨rfl, below_of O1.out⟩
  have hd0 : ((n : Int) == (0 : Int)) = false := by simp; omega
  by_cases h100 : 100 < n
  · have hd : decide ((100 : Int) < (n : Int)) = true := decide_eq_true (by omega)
    clear hl hc hn h100 h00
    go_enter Try.func5, Try.ntmps5
    go_wp2_with (go_at_call 9; refine (HAW.out _).mono ?_; rintro e w1 ⟨rfl, o1⟩; have O1 := Lib.hid o1; clear o1)
    go_ret
    exact ⟨rfl, below_of O1.out⟩
  have hd : decide ((100 : Int) < (n : Int)) = false := decide_eq_false (by omega)
  have HL := Lib.hid hl
  have HN := Lib.hid hn
  have HB : Hid (n ≤ 100) := Lib.hid (by omega)
  have HPOS : Hid (0 < n) := Lib.hid (by omega)
  have HNW := Lib.hid (wh_new now w)
  have HCA : Hid (∀ a w, Calls Try.prog 13 #[.int .i64 a] w fun e w' => e = .returned (.int .i64 (cl a)) ∧ w = w') := Lib.hid clampR_p
  clear hl hn h100 h00
  go_enter Try.func5, Try.ntmps5
  go_wp2_with (go_at_call 10; refine HNW.out.mono ?_; rintro e w1 ⟨g, F, rfl, h1, hf, o1⟩; have H1 := Lib.hid h1; have HF := Lib.hid hf; have O1 := Lib.hid o1; clear h1 hf o1)
  clear hd0
  go_loopw [6, 7] (fun v6 v7 wr => ∃ (j : Nat) (m : Int) (Fj : Nat → Prop), v7 = .int .i64 (j : Int) ∧ v6 = .int .i64 m ∧ j ≤ n ∧ Hid (WH wr g Fj (cl now) (j : Int) (added (l.take j))) ∧ Hid (∀ k, Fj k → w.heap.size ≤ k) ∧ Hid (Only (fun _ => False) w wr) ∧ Hid (∀ p ∈ added (l.take j), m ≤ p.1) ∧ Hid (m = 1125899906842624 ∨ ∃ p ∈ added (l.take j), m = p.1)) (fun _ v7 _ => n - (RowKit.intOf v7).toNat)
  case atStart => exact ⟨0, 1125899906842624, F, rfl, rfl, Nat.zero_le _, H1, HF, O1, Lib.hid (by simp [added]), Lib.hid (.inl rfl)⟩
  case round =>
    clear H1 HF O1 HNW
    obtain ⟨j, m, Fj, rfl, rfl, hj, HH, HF, HO, HMI, HME⟩ := hrel
    have hgo : j < n ∨ j = n := by omega
    rcases hgo with hlt | rfl
    · have hlt' : (j : Int) < (n : Int) := by omega
      have hNb := HB.out
      obtain ⟨ad, rfl, hx⟩ := Kd.at_int HL.out (j : Int) (by omega) hlt'
      rw [Int.toNat_natCast] at hx
      have hxx := rd_at (l := l) (j := j) (by rw [← HN.out]; exact hlt)
      obtain ⟨x, hxe⟩ : ∃ x, x = rd l (j : Int) := ⟨_, rfl⟩
      rw [← hxe] at hx hxx
      have HX : Hid (∀ w1, Only (fun _ => False) w w1 → w1.cell? (ad.add j) = some (.int .i64 x)) := Lib.hid (fun w1 ho => by
        have := (ho.below (Below.refl _ _) (Nat.le_refl _) (fun _ h => h.elim)).cell (World.block_lt_of_cell? w _ hx)
        rw [hx] at this
        exact this)
      have hxr := HX.out wr HO.out
      have HAD := Lib.hid (wh_add x HH.out (by rw [added_len, List.length_take]; omega) (by omega))
      have hst := added_step hxx
      rw [← hst] at HAD
      have HST := Lib.hid hst
      clear hx hxx hxe hst
      go_upto_region 9 with (go_at_call 11; refine HAD.out.mono ?_; rintro e w2 ⟨rfl, F2, h2, hf2, o2⟩; have H2 := Lib.hid h2; have HF2 : Hid (∀ k, F2 k → w.heap.size ≤ k) := Lib.hid (fun k hk => by have h0 := HO.out.size; rcases hf2 k hk with h | h; exact HF.out k h; omega); have O2 : Hid (Only (fun _ => False) w w2) := Lib.hid (HO.out.then_ o2 (fun k hk => .inr (HF.out k hk))); clear h2 hf2 o2)
      have hxr2 := HX.out w2 O2.out
      go_wp2_with (go_at_call 13; refine (HCA.out _ _).mono ?_; rintro e w' ⟨rfl, rfl⟩)
      go_roundw
      case rel =>
        have hle : mn m (cl x) ≤ m ∧ mn m (cl x) ≤ cl x := by unfold mn; split <;> omega
        refine ⟨j + 1, mn m (cl x), F2, by go_num, by first | rfl | simp, by omega, H2, HF2, O2, Lib.hid (fun p hp => ?_), Lib.hid ?_⟩
        · rw [HST.out] at hp
          rcases List.mem_append.1 hp with h1 | h1
          · exact Int.le_trans hle.1 (HMI.out p h1)
          · rw [List.mem_singleton.1 h1]; exact hle.2
        · rw [HST.out]
          unfold mn
          split
          · exact .inr ⟨_, List.mem_append.2 (.inr (List.mem_singleton.2 rfl)), rfl⟩
          · rcases HME.out with h1 | ⟨p, hp, h1⟩
            · exact .inl h1
            · exact .inr ⟨p, List.mem_append.2 (.inl hp), h1⟩
      case measure => simp [RowKit.intOf]; omega
    · have hge : ¬ (j : Int) < j := by omega
      have hh := HH.out
      have hmi := HMI.out
      have hme := HME.out
      rw [HN.out, List.take_length, ← HN.out] at hh
      rw [HN.out, List.take_length] at hmi hme
      have hne : added l ≠ [] := fun e => by have h1 := added_len l; rw [e] at h1; have h2 := HN.out; have h3 := HPOS.out; simp at h1; omega
      have hfst : Calls Try.prog 17 #[.pointer (some ⟨g, 0, none⟩)] wr fun e w' => e = .returned (.tuple #[.int .i64 m, .bool true]) ∧ Only (fun _ => False) wr w' := (wh_first hh hne).mono (fun e w' h => by
        obtain ⟨t, he, h1, ⟨p, hp, h2⟩, ho⟩ := h
        have h3 := hmi p hp
        have : t = m := by
          rcases hme with h4 | ⟨p', hp', h4⟩
          · have := (hh.bd p hp).1; omega
          · have := h1 p' hp'; omega
        rw [this] at he
        exact ⟨he, ho⟩)
      have hex : ∃ p ∈ added l, m = p.1 := by
        rcases hme with h1 | h1
        · obtain ⟨p, hp⟩ := List.exists_mem_of_ne_nil _ hne
          exact ⟨p, hp, by have := hmi p hp; have := (hh.bd p hp).1; omega⟩
        · exact h1
      have HFST := Lib.hid hfst
      have HH' := Lib.hid hh
      have HMI' := Lib.hid hmi
      have HEX := Lib.hid hex
      have hmb : 0 ≤ m ∧ m ≤ 1125899906842624 := by obtain ⟨p, hp, h1⟩ := hex; have := (hh.bd p hp).1; omega
      obtain ⟨hm0, hm1⟩ := hmb
      clear hh hmi hme hne hfst hex HH HMI HME
      go_upto_region 11 with (go_at_call 17; refine HFST.out.mono ?_; rintro e w2 ⟨rfl, o2⟩; have O2 : Hid (Only (fun _ => False) wr w2) := Lib.hid o2; clear o2)
      have HH2 := Lib.hid (HH'.out.only O2.out (fun _ _ h => h))
      have HO2 : Hid (Only (fun _ => False) w w2) := Lib.hid (HO.out.trans O2.out)
      obtain ⟨nw, hnw⟩ : ∃ nw, nw = cl now := ⟨_, rfl⟩
      have HC13 : Hid (∀ w, Calls Try.prog 13 #[.int .i64 now] w fun e w' => e = .returned (.int .i64 nw) ∧ w = w') := Lib.hid (fun w => by rw [hnw]; exact clampR_p now w)
      have hnb : 0 ≤ nw := by rw [hnw]; exact (cl_bounds now).1
      rw [← hnw] at HH2
      have HNB := Lib.hid hnb
      clear hnw
      by_cases ht : nw < m
      · have hd1 : decide (nw < m) = true := decide_eq_true ht
        have hon := out_none (e := m - 1) (K := added l) (fun p hp => by have := HMI'.out p hp; omega)
        have hav := wh_adv (m - 1) HH2.out (e := m - 1) (by rw [cl_same (m - 1) (by omega) (by omega)]; unfold mx; rw [if_neg (by omega)])
        rw [hon.1, hon.2] at hav
        have HAV := Lib.hid hav
        have hm2 : 1 ≤ m := by omega
        clear hon hav ht
        go_upto_region 13 with (first
          | (go_at_call 13; refine (HC13.out _).mono ?_; rintro e w' ⟨rfl, rfl⟩)
          | (go_at_call 12; refine HAV.out.mono ?_; rintro en w3 ⟨v3, F3, rfl, k3, h3, hf3, o3⟩
             obtain ⟨A3, c3, hv3, _⟩ := Row.form k3
             have hv3' : v3 = .slice A3 0 c3 := hv3
             subst hv3'
             have HT := Lib.hid h3
             have HFT : Hid (∀ k, F3 k → w.heap.size ≤ k) := Lib.hid (fun k hk => by have h0 := HO2.out.size; rcases hf3 k hk with h | h; exact HF.out k h; omega)
             have HOT : Hid (Only (fun _ => False) w w3) := Lib.hid (HO2.out.then_ o3 (fun k hk => .inr (HF.out k hk)))
             clear k3 h3 hf3 o3 hv3))
        obtain ⟨e2, he2⟩ : ∃ e2, e2 = mx (cl m) (m - 1) := ⟨_, rfl⟩
        have hle2 : m ≤ e2 := by rw [he2, cl_same m hm0 hm1]; unfold mx; split <;> omega
        have HAV2 := Lib.hid (wh_adv m HT.out he2)
        obtain ⟨h, r, p, x, hout, hp, hh, hx⟩ := out_first hle2 HMI'.out HEX.out
        rw [hout, hh] at HAV2
        have HP := Lib.hid hp
        clear hle2 he2 hout hp hh
        go_upto_region 14 with (go_at_call 12; refine HAV2.out.mono ?_; rintro en w4 ⟨v4, F4, rfl, k4, h4, hf4, o4⟩; have K4 := Lib.hid k4; have O4 : Hid (Only (fun _ => False) w w4) := Lib.hid (HOT.out.then_ o4 (fun k hk => .inr (HFT.out k hk))); clear k4 h4 hf4 o4)
        obtain ⟨q, o, c4, hv4, _⟩ := Row.some_ K4.out (Nat.succ_pos _)
        have hk4 := K4.out
        rw [hv4] at hk4
        have hx4 : w4.cell? ⟨q, o, none⟩ = some (.int .i64 ((p : Int) + 1)) := Row.cell hk4 0 rfl
        obtain ⟨M, hM⟩ : ∃ M, M = (((p : Int) + 1) :: r).length := ⟨_, rfl⟩
        have hMp : 0 < M := by rw [hM]; exact Nat.succ_pos _
        rw [← hM] at hv4
        subst hv4
        have hd2 : decide ((0 : Int) < (M : Int)) = true := decide_eq_true (by omega)
        have hpj : p < j := by rw [HN.out]; exact (List.getElem?_eq_some_iff.1 HP.out).1
        have hjB := HB.out
        obtain ⟨ad, rfl, hxa⟩ := Kd.at_int HL.out (p : Int) (by omega) (by omega)
        rw [Int.toNat_natCast] at hxa
        have hrd := rd_at (l := l) (j := p) (by rw [← HN.out]; exact hpj)
        rw [HP.out] at hrd
        injection hrd with hrd
        rw [← hrd] at hxa
        have hxr : w4.cell? (ad.add p) = some (.int .i64 x) := by
          have := (O4.out.below (Below.refl _ _) (Nat.le_refl _) (fun _ h => h.elim)).cell (World.block_lt_of_cell? w _ hxa)
          rw [hxa] at this
          exact this
        have hd3 : decide ((1 : Int) ≤ (p : Int) + 1) = true := decide_eq_true (by omega)
        have hd4 : decide ((p : Int) + 1 ≤ (j : Int)) = true := decide_eq_true (by omega)
        clear hk4 hM hxa hrd
        go_wp2_with (first | (go_at_call 13; refine (HCA.out _ _).mono ?_; rintro e w' ⟨rfl, rfl⟩) | (go_at_call 9; refine (HAW.out _).mono ?_; rintro e w6 ⟨rfl, o6⟩; have O6 := Lib.hid o6; clear o6))
        go_ret
        exact ⟨rfl, below_of (O4.out.trans O6.out)⟩
      · have hd1 : decide (nw < m) = false := decide_eq_false ht
        have HT := HH2
        have HFT := HF
        have HOT := HO2
        clear ht
        go_upto_region 13 with (go_at_call 13; refine (HC13.out _).mono ?_; rintro e w' ⟨rfl, rfl⟩)
        obtain ⟨e2, he2⟩ : ∃ e2, e2 = mx (cl m) nw := ⟨_, rfl⟩
        have hle2 : m ≤ e2 := by rw [he2, cl_same m hm0 hm1]; unfold mx; split <;> omega
        have HAV2 := Lib.hid (wh_adv m HT.out he2)
        obtain ⟨h, r, p, x, hout, hp, hh, hx⟩ := out_first hle2 HMI'.out HEX.out
        rw [hout, hh] at HAV2
        have HP := Lib.hid hp
        clear hle2 he2 hout hp hh
        go_upto_region 14 with (go_at_call 12; refine HAV2.out.mono ?_; rintro en w4 ⟨v4, F4, rfl, k4, h4, hf4, o4⟩; have K4 := Lib.hid k4; have O4 : Hid (Only (fun _ => False) w w4) := Lib.hid (HOT.out.then_ o4 (fun k hk => .inr (HFT.out k hk))); clear k4 h4 hf4 o4)
        obtain ⟨q, o, c4, hv4, _⟩ := Row.some_ K4.out (Nat.succ_pos _)
        have hk4 := K4.out
        rw [hv4] at hk4
        have hx4 : w4.cell? ⟨q, o, none⟩ = some (.int .i64 ((p : Int) + 1)) := Row.cell hk4 0 rfl
        obtain ⟨M, hM⟩ : ∃ M, M = (((p : Int) + 1) :: r).length := ⟨_, rfl⟩
        have hMp : 0 < M := by rw [hM]; exact Nat.succ_pos _
        rw [← hM] at hv4
        subst hv4
        have hd2 : decide ((0 : Int) < (M : Int)) = true := decide_eq_true (by omega)
        have hpj : p < j := by rw [HN.out]; exact (List.getElem?_eq_some_iff.1 HP.out).1
        have hjB := HB.out
        obtain ⟨ad, rfl, hxa⟩ := Kd.at_int HL.out (p : Int) (by omega) (by omega)
        rw [Int.toNat_natCast] at hxa
        have hrd := rd_at (l := l) (j := p) (by rw [← HN.out]; exact hpj)
        rw [HP.out] at hrd
        injection hrd with hrd
        rw [← hrd] at hxa
        have hxr : w4.cell? (ad.add p) = some (.int .i64 x) := by
          have := (O4.out.below (Below.refl _ _) (Nat.le_refl _) (fun _ h => h.elim)).cell (World.block_lt_of_cell? w _ hxa)
          rw [hxa] at this
          exact this
        have hd3 : decide ((1 : Int) ≤ (p : Int) + 1) = true := decide_eq_true (by omega)
        have hd4 : decide ((p : Int) + 1 ≤ (j : Int)) = true := decide_eq_true (by omega)
        clear hk4 hM hxa hrd
        go_wp2_with (first | (go_at_call 13; refine (HCA.out _ _).mono ?_; rintro e w' ⟨rfl, rfl⟩) | (go_at_call 9; refine (HAW.out _).mono ?_; rintro e w6 ⟨rfl, o6⟩; have O6 := Lib.hid o6; clear o6))
        go_ret
        exact ⟨rfl, below_of (O4.out.trans O6.out)⟩

end Go.Proofs.Ytkjokpmlnnjmoaa.Wh

/- Hist: the fifth law's walk. -/
import Derived.Test.YtognnjhphnhbfaaHiG
set_option linter.unusedVariables false
set_option linter.unusedSimpArgs false
namespace Go.Proofs.Ytognnjhphnhbfaa.Hi
open Go.RowKit Go.Maps Go.Proofs.Ytognnjhphnhbfaa.Base Go.Proofs.Ytognnjhphnhbfaa.Rws Go.Proofs.YtognnjhphnhbfaaW.PrintWords Go.Proofs.YtognnjhphnhbfaaW.PrintMore
attribute [local go_sem] max2_mx min2_mn max_two min_two max_three min_three max_four min_four

theorem Ks.appAll {W : World} {P : Nat → Prop} {v : Value} {L l : List Int} (h : Ks W P v L) (hP : ∀ k, W.heap.size ≤ k → P k) (hL : L.length ≤ 2000) (hl : l.length ≤ 2000) {A : Option Addr} {n : Nat} (hn : n = l.length) (hC : Kd.C KI W A n l) (c : Nat) (ty : TypeId) :
    ∃ v1 w1, (Builtin.append_ #[25, 25] ty #[v, .slice A n c]).run Try.prog W = .ok v1 w1 ∧ Ks w1 P v1 (L ++ l) ∧ Only (fun k => v.ownBlock = some k) W w1 := by
  by_cases h0 : n = 0
  · subst h0
    refine ⟨v, W, Row.app0 h Try.underlying25 info3 A c, ?_, Only.refl _ _⟩
    rw [show l = [] from List.length_eq_zero_iff.1 hn.symm, List.append_nil]
    exact h
  · obtain ⟨ad, rfl, _⟩ := Kd.at_int hC (0 : Int) (by omega) (by omega)
    obtain ⟨v1, w1, hr, hR, ho⟩ := Row.app (ty := ty) h Try.underlying25 info3 (by rfl) hP ad n c (l.map (Value.int .i64)) (by simp [hn]) (fun i u hu => by
      rw [List.getElem?_map] at hu
      obtain ⟨x, hx, rfl⟩ := Option.map_eq_some_iff.1 hu
      have hi : i < l.length := (List.getElem?_eq_some_iff.1 hx).1
      obtain ⟨ad', he, hx'⟩ := Kd.at_int hC (i : Int) (by omega) (by omega)
      injection he with he
      subst he
      rw [rd_eq hx, Int.toNat_natCast] at hx'
      exact hx') (by intro u hu; obtain ⟨x, _, rfl⟩ := List.mem_map.1 hu; rfl) (by omega) (by omega) (by omega)
    refine ⟨v1, w1, hr, ?_, ho⟩
    unfold Ks
    rw [List.length_append, List.map_append, ← hn]
    exact hR

set_option maxHeartbeats 16000000 in
set_option maxRecDepth 100000 in
theorem merges_walk (xs : List Int) (A : Option Addr) (c : Nat) (ys : List Int) (B : Option Addr) (d : Nat) (p : Int) (w : World) (hx : Kd.C KI w A xs.length xs) (hc : xs.length ≤ c) (hy : Kd.C KI w B ys.length ys) (hd : ys.length ≤ d) :
    Calls Try.prog 7 #[.slice A xs.length c, .slice B ys.length d, .int .i64 p] w fun e w' => e = .returned (.bool true) ∧ Below w.heap.size w w' := by
  have HA : Hid (∀ w, Calls Try.prog 14 #[] w fun e w' => e = .returned (.bool true) ∧ Only (fun _ => False) w w') := Lib.hid awake_p
  obtain ⟨n, hn⟩ : ∃ n, n = xs.length := ⟨_, rfl⟩
  obtain ⟨m, hm⟩ : ∃ m, m = ys.length := ⟨_, rfl⟩
  rw [← hn] at hx hc ⊢
  rw [← hm] at hy hd ⊢
  by_cases h100 : 100 < n
  · have hd : decide ((100 : Int) < (n : Int)) = true := decide_eq_true (by omega)
    clear hx hc hn hy hm h100
    go_enter Try.func7, Try.ntmps7
    go_wp2_with (go_at_call 14; refine (HA.out _).mono ?_; rintro e w1 ⟨rfl, o1⟩; have O1 := Lib.hid o1; clear o1)
    go_ret
    exact ⟨rfl, below_of O1.out⟩
  have hd1 : decide ((100 : Int) < (n : Int)) = false := decide_eq_false (by omega)
  by_cases h101 : 100 < m
  · have hd2 : decide ((100 : Int) < (m : Int)) = true := decide_eq_true (by omega)
    clear hx hc hn hy hm h100 h101
    go_enter Try.func7, Try.ntmps7
    go_wp2_with (go_at_call 14; refine (HA.out _).mono ?_; rintro e w1 ⟨rfl, o1⟩; have O1 := Lib.hid o1; clear o1)
    go_ret
    exact ⟨rfl, below_of O1.out⟩
  have hd2 : decide ((100 : Int) < (m : Int)) = false := decide_eq_false (by omega)
  have HN := Lib.hid hn
  have HM := Lib.hid hm
  have HX := Lib.hid hx
  have HY := Lib.hid hy
  have H100 : Hid (n ≤ 100 ∧ m ≤ 100) := Lib.hid (by omega)
  clear hx hc hn hy hm h100 h101 hd
  go_enter Try.func7, Try.ntmps7
  go_wp2_with fail
  have HALL := Lib.hid (all_p xs A n c w HN.out HX.out (by have := H100.out; omega))
  obtain ⟨g1, hg1⟩ : ∃ g, g = w.heap.size + 1 := ⟨_, rfl⟩
  obtain ⟨b1, hb1⟩ : ∃ b, b = w.heap.size := ⟨_, rfl⟩
  rw [← hg1, ← hb1] at HALL
  have HG1 : Hid (w.heap.size ≤ g1 ∧ w.heap.size ≤ b1) := Lib.hid (by omega)
  clear hg1 hb1
  refine HALL.out.mono ?_
  rintro e w1 ⟨rfl, x1, o1⟩
  have X1 := Lib.hid x1
  have O1 := Lib.hid o1
  clear x1 o1 HALL
  go_wp2_with fail
  have HALL := Lib.hid (all_p ys B m d w1 HM.out (Kd.C_below HY.out (below_of O1.out)) (by have := H100.out; omega))
  obtain ⟨g2, hg2⟩ : ∃ g, g = w1.heap.size + 1 := ⟨_, rfl⟩
  obtain ⟨b2, hb2⟩ : ∃ b, b = w1.heap.size := ⟨_, rfl⟩
  rw [← hg2, ← hb2] at HALL
  have HG2 : Hid (w1.heap.size ≤ g2 ∧ w1.heap.size ≤ b2) := Lib.hid (by omega)
  clear hg2 hb2
  refine HALL.out.mono ?_
  rintro e w2 ⟨rfl, x2, o2⟩
  have X2 := Lib.hid (X1.out.only o2 (fun h => h) (fun h => h))
  have Y2 := Lib.hid x2
  have O2 := Lib.hid (O1.out.trans o2)
  have HB1 : Hid (g1 < w1.heap.size ∧ b1 < w1.heap.size) := Lib.hid ⟨blk_lt X1.out.blk, X1.out.map.lt⟩
  clear x2 o2 HALL X1 O1
  obtain ⟨v3, w3, hr3, k3, o3⟩ := Ks.appAll (W := w2) (P := fun k => w2.heap.size ≤ k) (L := []) (l := ys) (Row.nil _ _ _ _) (fun k hk => hk) (by simp) (by rw [← HM.out]; have := H100.out; omega) HM.out (Kd.C_below HY.out (below_of O2.out)) d 25
  rw [List.nil_append] at k3
  have HR3 := Lib.hid hr3
  have o3' : Only (fun _ => False) w2 w3 := o3.mono (fun k hk => by simp [Value.ownBlock] at hk)
  have O3 := Lib.hid (O2.out.trans o3')
  obtain ⟨v4, w4, hr4, k4, o4⟩ := Ks.appAll (W := w3) (P := fun k => w2.heap.size ≤ k) (L := ys) (l := xs) k3 (fun k hk => by have := o3.size; omega) (by rw [← HM.out]; have := H100.out; omega) (by rw [← HN.out]; have := H100.out; omega) HN.out (Kd.C_below HX.out (below_of O3.out)) c 25
  have HR4 := Lib.hid hr4
  have o4' : Only (fun _ => False) w2 w4 := o3'.then_ o4 (fun k hk => .inr (Row.own k3 hk).1)
  have O4 := Lib.hid (O2.out.trans o4')
  have X4 := Lib.hid (X2.out.only o4' (fun h => h) (fun h => h))
  have Y4 := Lib.hid (Y2.out.only o4' (fun h => h) (fun h => h))
  obtain ⟨A4, c4, rfl, _⟩ := k4.form
  obtain ⟨T, hT⟩ : ∃ T, T = (ys ++ xs).length := ⟨_, rfl⟩
  rw [← hT] at HR4 k4
  have HT := Lib.hid hT
  have HK4 := Lib.hid k4
  have HT2 : Hid (T ≤ 200) := Lib.hid (by rw [hT, List.length_append, ← HN.out, ← HM.out]; have := H100.out; omega)
  clear hr3 k3 o3 o3' hr4 k4 o4 o4' O3 X2 Y2 O2 hT
  go_wp2_with (
    first
    | ((with_reducible refine gate_builtin (b := .append) (xs := #[.tmp 32, .tmp 33]) rfl ?_); at_builtin; go_loud (refine Go.Lib.wpList_append_run_sl _ rfl (.tmp 32) (.tmp 33) 25 rfl _ _ rfl rfl HR3.out ?_))
    | ((with_reducible refine gate_builtin (b := .append) (xs := #[.tmp 35, .tmp 36]) rfl ?_); at_builtin; go_loud (refine Go.Lib.wpList_append_run_sl _ rfl (.tmp 35) (.tmp 36) 25 rfl _ _ rfl rfl HR4.out ?_)))
  obtain ⟨kc1, kc2, kc3⟩ := ks_C HK4.out (by rw [← HT.out]; have := HT2.out; omega)
  have HALL := Lib.hid (all_p (ys ++ xs) A4 T c4 w4 HT.out kc3 (by have := HT2.out; omega))
  obtain ⟨g3, hg3⟩ : ∃ g, g = w4.heap.size + 1 := ⟨_, rfl⟩
  obtain ⟨b3, hb3⟩ : ∃ b, b = w4.heap.size := ⟨_, rfl⟩
  rw [← hg3, ← hb3] at HALL
  have HG3 : Hid (w.heap.size ≤ g3 ∧ w.heap.size ≤ b3) := Lib.hid (by have := O4.out.size; omega)
  obtain ⟨is, his⟩ : ∃ is, is = xs.map idx ++ ys.map idx := ⟨_, rfl⟩
  have HIS := Lib.hid his
  have HIL : Hid (is.length = T) := Lib.hid (by rw [his, HT.out]; simp; omega)
  have HD : Hid (g1 ≠ g2 ∧ b1 ≠ b2 ∧ g3 ≠ g1 ∧ g3 ≠ b1 ∧ g3 ≠ b2 ∧ b3 ≠ g1 ∧ b3 ≠ b1 ∧ b3 ≠ b2) := by
    have h1 := blk_lt X4.out.blk
    have h2 := X4.out.map.lt
    have h3 := Y4.out.map.lt
    have h4 := HB1.out
    have h5 := HG2.out
    exact Lib.hid (by omega)
  clear kc1 kc2 kc3 hg3 hb3 his
  refine HALL.out.mono ?_
  rintro e w5 ⟨rfl, z5, o5⟩
  have X5 := Lib.hid (X4.out.only o5 (fun h => h) (fun h => h))
  have Y5 := Lib.hid (Y4.out.only o5 (fun h => h) (fun h => h))
  have Z5 : Hid (HS w5 g3 b3 is) := Lib.hid (z5.perm (by rw [HIS.out, List.map_append]; exact List.perm_append_comm))
  have O5 := Lib.hid (O4.out.trans o5)
  clear z5 o5 HALL X4 Y4 O4
  have HSUB : Hid (w.heap.size ≤ g1 ∧ w.heap.size ≤ b1 ∧ w.heap.size ≤ b2 ∧ w.heap.size ≤ b3) := Lib.hid (by have h1 := HG1.out; have h2 := HG2.out; have h3 := HG3.out; have h4 := HB1.out; omega)
  go_wp2_with fail
  refine (merge_p w5 X5.out Y5.out HD.out.1 HD.out.2.1 (by rw [List.length_map, ← HN.out]; have := H100.out; omega) (by rw [List.length_map, ← HM.out]; have := H100.out; omega)).mono ?_
  rintro e w6 ⟨rfl, x6, y6, o6⟩
  rw [← HIS.out] at x6
  have X6 := Lib.hid x6
  have Y6 := Lib.hid y6
  have Z6 : Hid (HS w6 g3 b3 is) := Lib.hid (Z5.out.only o6 (fun h => by rcases h with h | h | h; exact HD.out.2.2.1 h; exact HD.out.2.2.2.1 h; exact HD.out.2.2.2.2.1 h) (fun h => by rcases h with h | h | h; exact HD.out.2.2.2.2.2.1 h; exact HD.out.2.2.2.2.2.2.1 h; exact HD.out.2.2.2.2.2.2.2 h))
  have O6 : Hid (Only (fun _ => False) w w6) := Lib.hid (O5.out.then_ o6 (fun k hk => .inr (by have := HSUB.out; rcases hk with rfl | rfl | rfl <;> omega)))
  clear x6 y6 o6 X5 Y5 Z5 O5
  go_wp2_with fail
  refine (merge_none w6 X6.out).mono ?_
  rintro e w7 ⟨rfl, rfl⟩
  go_wp2_with fail
  refine (len_p w6 X6.out).mono ?_
  rintro e w7 ⟨rfl, rfl⟩
  go_wp2_with fail
  refine (len_p w6 Z6.out).mono ?_
  rintro e w7 ⟨rfl, rfl⟩
  go_wp2_with fail
  refine (len_p w6 Y6.out).mono ?_
  rintro e w7 ⟨rfl, rfl⟩
  have hym : (((List.map idx ys).length : Nat) : Int) = (m : Int) := by rw [List.length_map, HM.out]
  rw [hym]
  clear hym Y6
  go_wp2_with fail
  refine (rows_p w6 X6.out (by rw [HIL.out]; have := HT2.out; omega)).mono ?_
  rintro e w7 ⟨v7, rfl, r7, x7, o7⟩
  have R7 := Lib.hid r7
  have X7 := Lib.hid x7
  have Z7 : Hid (HS w7 g3 b3 is) := Lib.hid (Z6.out.only o7 (fun h => HD.out.2.2.2.1 h) (fun h => HD.out.2.2.2.2.2.2.1 h))
  have O7 : Hid (Only (fun _ => False) w w7) := Lib.hid (O6.out.then_ o7 (fun k hk => .inr (by have := HSUB.out; omega)))
  clear r7 x7 o7 X6 Z6 O6
  go_wp2_with fail
  refine (rows_p w7 Z7.out (by rw [HIL.out]; have := HT2.out; omega)).mono ?_
  rintro e w8 ⟨v8, rfl, r8, z8, o8⟩
  obtain ⟨M, hM⟩ : ∃ M, M = (rowsM is).length := ⟨_, rfl⟩
  have hM1 : M ≤ 1000 := by
    have h1 := keys_len is
    have h2 := HIL.out
    have h3 := HT2.out
    rw [hM]
    unfold rowsM
    rw [List.length_map]
    omega
  obtain ⟨A7, c7, rfl, _⟩ := R7.out.form
  obtain ⟨A8, c8, rfl, _⟩ := r8.form
  have R8 := Lib.hid r8
  have R7' : Hid (Rs w8 (fun k => w6.heap.size ≤ k) (.slice A7 (rowsM is).length c7) (rowsM is)) := Lib.hid (Row.only R7.out o8 (fun q hq hb => by
    obtain ⟨D, nn, ⟨es, clock, hm, _⟩, _⟩ := Z7.out.map
    exact Row.neMap R7.out hm (hb ▸ hq)))
  have X8 : Hid (HS w8 g1 b1 is) := Lib.hid (X7.out.only o8 (fun h => by
    obtain ⟨D, nn, ⟨es, clock, hm, _⟩, _⟩ := Z7.out.map
    have := X7.out.blk
    rw [h, hm] at this
    cases this) (fun h => HD.out.2.2.2.2.2.2.1 h.symm))
  have Z8 := Lib.hid z8
  have O8 : Hid (Only (fun _ => False) w w8) := Lib.hid (O7.out.then_ o8 (fun k hk => .inr (by have := HSUB.out; omega)))
  rw [← hM] at R7' R8 ⊢
  have HM7 := Lib.hid hM
  clear r8 z8 o8 X7 Z7 O7 R7 hM
  go_wp2_with fail
  go_loopw [13] (fun v13 wr => ∃ (j : Nat), v13 = .int .i64 (j : Int) ∧ j ≤ M ∧ Hid (Only (fun _ => False) w8 wr)) (fun v13 _ => M - (RowKit.intOf v13).toNat)
  case atStart => exact ⟨0, rfl, Nat.zero_le _, Lib.hid (Only.refl _ _)⟩
  case round =>
    obtain ⟨j, rfl, hj, HO⟩ := hrel
    have hgo : j < M ∨ j = M := by omega
    rcases hgo with hlt | rfl
    · have hlt' : (j : Int) < (M : Int) := by omega
      have hnge : decide ((M : Int) ≤ (j : Int)) = false := decide_eq_false (by omega)
      obtain ⟨x, hx⟩ : ∃ x, (rowsM is)[j]? = some x := ⟨(rowsM is)[j]'(by have := HM7.out; omega), List.getElem?_eq_getElem _⟩
      have HRa := R7'.out.only HO.out (fun _ _ h => h)
      have HRb := R8.out.only HO.out (fun _ _ h => h)
      rw [← HM7.out] at HRa HRb
      obtain ⟨q, o, c', he, hcc⟩ := Row.some_ HRa (by omega)
      injection he with e1 e2 e3
      subst e1 e3
      obtain ⟨q', o', c'', he, hcc'⟩ := Row.some_ HRb (by omega)
      injection he with e1 e2 e3
      subst e1 e3
      have hx0 : wr.cell? ⟨q, o + j * 3, none⟩ = some (.int .i64 x.lw) := Row.cell HRa (j * 3) (encR_at _ j 0 x hx (by omega))
      have hx1 : wr.cell? ⟨q, o + j * 3 + 1, none⟩ = some (.int .i64 x.hg) := Row.cell HRa (j * 3 + 1) (encR_at _ j 1 x hx (by omega))
      have hx2 : wr.cell? ⟨q, o + j * 3 + 2, none⟩ = some (.int .i64 x.n) := Row.cell HRa (j * 3 + 2) (encR_at _ j 2 x hx (by omega))
      have hy0 : wr.cell? ⟨q', o' + j * 3, none⟩ = some (.int .i64 x.lw) := Row.cell HRb (j * 3) (encR_at _ j 0 x hx (by omega))
      have hy1 : wr.cell? ⟨q', o' + j * 3 + 1, none⟩ = some (.int .i64 x.hg) := Row.cell HRb (j * 3 + 1) (encR_at _ j 1 x hx (by omega))
      have hy2 : wr.cell? ⟨q', o' + j * 3 + 2, none⟩ = some (.int .i64 x.n) := Row.cell HRb (j * 3 + 2) (encR_at _ j 2 x hx (by omega))
      clear hx HRa HRb hcc hcc'
      go_upto_region 14 with fail
      go_quiet (fail)
      obtain ⟨wq, hwq⟩ : ∃ x, x = wr.drewN nq := ⟨_, rfl⟩
      have HOq : Hid (Only (fun _ => False) w8 wq) := by rw [hwq]; exact Lib.hid (HO.out.drewN _)
      rw [← hwq]
      clear hwq hx0 hx1 hx2 hy0 hy1 hy2
      go_wp2
      go_roundw
      case rel => exact ⟨j + 1, by go_num, by omega, HOq⟩
      case measure => simp [RowKit.intOf]; omega
    · have hge : ¬ (j : Int) < j := by omega
      have X9 := Lib.hid (X8.out.only HO.out (fun h => h) (fun h => h))
      have Z9 := Lib.hid (Z8.out.only HO.out (fun h => h) (fun h => h))
      have O9 := Lib.hid (O8.out.trans HO.out)
      clear HO X8 Z8 O8 R7' R8
      obtain ⟨Q, hQ⟩ : ∃ Q, Q = quantM is p := ⟨_, rfl⟩
      go_wp2_with fail
      refine (quant_p _ X9.out (by rw [HIL.out]; have := HT2.out; omega) p).mono ?_
      rw [← hQ]
      rintro e w10 ⟨rfl, x10, o10⟩
      have Z10 := Lib.hid (Z9.out.only o10 (fun h => HD.out.2.2.2.1 h) (fun h => HD.out.2.2.2.2.2.2.1 h))
      have O10 : Hid (Only (fun _ => False) w w10) := Lib.hid (O9.out.then_ o10 (fun k hk => .inr (by have := HSUB.out; omega)))
      have X10 := Lib.hid x10
      clear x10 o10 X9 Z9 O9
      go_wp2_with fail
      refine (quant_p _ Z10.out (by rw [HIL.out]; have := HT2.out; omega) p).mono ?_
      rw [← hQ]
      rintro e w11 ⟨rfl, z11, o11⟩
      have O11 : Hid (Only (fun _ => False) w w11) := Lib.hid (O10.out.then_ o11 (fun k hk => .inr (by have := HSUB.out; omega)))
      clear z11 o11 X10 Z10 O10 hQ
      go_wp2_with (
        first
        | (go_at_call 27; refine (merge_nil _ ⟨_, rfl⟩ _).mono ?_; rintro e w' ⟨rfl, rfl⟩)
        | (go_at_call 28; refine (add_nil _ _).mono ?_; rintro e w' ⟨rfl, rfl⟩)
        | (go_at_call 20; refine (len_nil _).mono ?_; rintro e w' ⟨rfl, rfl⟩)
        | (go_at_call 21; refine (count_nil _ _).mono ?_; rintro e w' ⟨rfl, rfl⟩)
        | (go_at_call 24; refine (rows_nil _).mono ?_; rintro e w' ⟨rfl, rfl⟩)
        | (go_at_call 14; refine (HA.out _).mono ?_; rintro e w12 ⟨rfl, o12⟩; have O12 := Lib.hid (O11.out.trans o12); clear o12))
      go_ret
      exact ⟨rfl, below_of O12.out⟩

end Go.Proofs.Ytognnjhphnhbfaa.Hi

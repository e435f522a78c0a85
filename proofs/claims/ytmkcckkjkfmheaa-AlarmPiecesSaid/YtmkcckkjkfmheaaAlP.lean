/- Alarm: asked at once or in steps. -/
import Derived.Test.YtmkcckkjkfmheaaAlL
import Derived.Test.YtmkcckkjkfmheaaArgs
set_option linter.unusedVariables false
set_option linter.unusedSimpArgs false
set_option maxRecDepth 100000
namespace Go.Proofs.Ytmkcckkjkfmheaa.Al
open Go.RowKit Go.Maps Go.Proofs.Ytmkcckkjkfmheaa.Base Go.Proofs.Ytmkcckkjkfmheaa.Rws Go.Proofs.Ytmkcckkjkfmheaa.Wh Go.Proofs.YtmkcckkjkfmheaaW.PrintWords Go.Proofs.YtmkcckkjkfmheaaW.PrintMore
attribute [local go_sem] max2_mx min2_mn max_two min_two max_three min_three max_four min_four
attribute [local go_sem high] eqK27 eqK33

def Keep0 (_ : Nat) (_ : Obj) : Prop := False

theorem set_v {w : World} {p : Nat} {F : Nat → Prop} {G n last : Int} {A : List En} (h : AH w p F G n last A) (k : K5) (hk : k.wf) (t : Int) (hA : A.length < 4096) (hlast : last < 90000) :
    Calls Try.prog 10 #[.pointer (some ⟨p, 0, none⟩), .agg #[.int .i64 k.a, .int .i64 k.b, .int .i64 k.c, .int .i64 k.d, .int .i64 k.e], .int .i64 t] w fun e w' => e = .returned (.int .i64 0) ∧ ClearPost w p F G n (last + 1) (setA A k (cl t) (last + 1)) w' := set_a h k hk t hA hlast

theorem mine_v (k : K5) (w : World) : Calls Try.prog 11 #[.agg #[.int .i64 k.a, .int .i64 k.b, .int .i64 k.c, .int .i64 k.d, .int .i64 k.e]] w fun e w' => e = .returned (.agg #[.int .i64 k.a, .int .i64 k.b, .int .i64 k.c, .int .i64 k.d, .int .i64 k.e]) ∧ Only (fun _ => False) w w' := mine_p k w

theorem inA_of {w : World} {A : Option Addr} {len : Nat} (h : ∀ i, i < len → ∃ a, A = some a ∧ ∀ o k, (o, k) ∈ [(0, Args.Bs.int .i64), (1, Args.Bs.int .i64), (2, Args.Bs.int .i64), (3, Args.Bs.int .i64), (4, Args.Bs.int .i64), (5, Args.Bs.int .i64)] → ∃ v, w.cell? (a.add (i * Try.prog.cellsOf 44 + o)) = some v ∧ k.fit v) : InA w A len := by
  intro i h1
  obtain ⟨a, hA, hc⟩ := h i h1
  rw [cells44] at hc
  obtain ⟨v0, hv0, x0, rfl, hw0⟩ := hc 0 (.int .i64) (by simp)
  obtain ⟨v1, hv1, x1, rfl, hw1⟩ := hc 1 (.int .i64) (by simp)
  obtain ⟨v2, hv2, x2, rfl, hw2⟩ := hc 2 (.int .i64) (by simp)
  obtain ⟨v3, hv3, x3, rfl, hw3⟩ := hc 3 (.int .i64) (by simp)
  obtain ⟨v4, hv4, x4, rfl, hw4⟩ := hc 4 (.int .i64) (by simp)
  obtain ⟨v5, hv5, x5, rfl, hw5⟩ := hc 5 (.int .i64) (by simp)
  rw [add_field a (i * 6) 1 (by omega)] at hv1
  rw [add_field a (i * 6) 2 (by omega)] at hv2
  rw [add_field a (i * 6) 3 (by omega)] at hv3
  rw [add_field a (i * 6) 4 (by omega)] at hv4
  rw [add_field a (i * 6) 5 (by omega)] at hv5
  exact ⟨a, ⟨x0, x1, x2, x3, x4⟩, x5, hA, ⟨hw0, hw1, hw2, hw3, hw4⟩, fun V hV => ⟨cell_only hv0 hV, cell_only hv1 hV, cell_only hv2 hV, cell_only hv3 hV, cell_only hv4 hV, cell_only hv5 hV⟩⟩

set_option maxHeartbeats 32000000 in
theorem pieces_walk (g : Int) (A1 : Option Addr) (n cap1 : Nat) (st : List Int) (A2 : Option Addr) (c2 : Nat) (to_ : Int) (W : World) (hl : InA W A1 n) (hs : Kd.C KI W A2 st.length st) (hd : st.length ≤ c2) :
    Calls Try.prog 4 #[.int .i64 g, .slice A1 n cap1, .slice A2 st.length c2, .int .i64 to_] W fun e w' => e = .returned (.bool true) ∧ Below W.heap.size W w' := by
  obtain ⟨ns, hns⟩ : ∃ ns, ns = st.length := ⟨_, rfl⟩
  rw [← hns] at hs hd ⊢
  by_cases h40 : 40 < n
  · have hdd : decide ((40 : Int) < (n : Int)) = true := decide_eq_true (by omega)
    clear hl h40 hs hd hns
    go_enter Try.func4, Try.ntmps4
    go_wp2_with (go_at_call 16; refine (awake_p _).mono ?_; rintro e w1 ⟨rfl, o1⟩; have O1 := Lib.hid o1; clear o1)
    go_ret
    exact ⟨rfl, below_of O1.out⟩
  have hdd : decide ((40 : Int) < (n : Int)) = false := decide_eq_false (by omega)
  by_cases h30 : 30 < ns
  · have hdd2 : decide ((30 : Int) < (ns : Int)) = true := decide_eq_true (by omega)
    clear hl h40 hs hd hns h30
    go_enter Try.func4, Try.ntmps4
    go_wp2_with (go_at_call 16; refine (awake_p _).mono ?_; rintro e w1 ⟨rfl, o1⟩; have O1 := Lib.hid o1; clear o1)
    go_ret
    exact ⟨rfl, below_of O1.out⟩
  have hdd2 : decide ((30 : Int) < (ns : Int)) = false := decide_eq_false (by omega)
  have HL := Lib.hid hl
  have HB : Hid (n ≤ 40) := Lib.hid (by omega)
  have HSL := Lib.hid hs
  have HNS := Lib.hid hns
  have HBS : Hid (ns ≤ 30) := Lib.hid (by omega)
  have HNEW : Hid (∀ w, _) := Lib.hid (fun w => new_a g w)
  have hG := clg_bd g
  obtain ⟨G, hGG⟩ : ∃ G, G = clg g := ⟨_, rfl⟩
  rw [← hGG] at HNEW hG
  have HG := Lib.hid hG
  have HCA : Hid (∀ a w, Calls Try.prog 14 #[.int .i64 a] w fun e w' => e = .returned (.int .i64 (cl a)) ∧ w = w') := Lib.hid clampR_p
  clear hl hs hns h40 h30 hG hGG
  go_enter Try.func4, Try.ntmps4
  go_wp2_with fail
  go_at_call 8
  refine (HNEW.out _).mono ?_
  rintro en w3 ⟨pa, Fa, rfl, hA, hfa, ho3⟩
  have HA3 := Lib.hid hA
  have HFA := Lib.hid hfa
  have HO3 := Lib.hid ho3
  clear hA hfa ho3
  go_upto_region 4 with (go_at_call 8; refine (HNEW.out _).mono ?_; rintro en w4 ⟨pb, Fb, rfl, hB, hfb, ho4⟩; have HB4 := Lib.hid hB; have HFB := Lib.hid hfb; have HO4 := Lib.hid ho4; clear hB hfb ho4)
  have HD : Hid (Duo W Keep0 G w4 pa Fa 0 0 [] pb Fb 0 0 []) := Lib.hid ⟨HA3.out.only HO4.out (fun _ _ h => h), HB4.out, fun k hk hk2 => by have := HA3.out.flt k hk; have := HFB.out k hk2; omega,
      HFA.out, fun k hk => Nat.le_trans HO3.out.size (HFB.out k hk), HO3.out.trans HO4.out, fun g o hk => hk.elim⟩
  clear HA3 HFA HO3 HB4 HFB HO4
  go_upto_region 5 with fail
  go_loopw [11] (fun v11 wr => ∃ (j : Nat) (Fa Fb : Nat → Prop) (A : List En), v11 = .int .i64 (j : Int) ∧ j ≤ n ∧ Hid (Duo W Keep0 G wr pa Fa 0 (j : Int) A pb Fb 0 (j : Int) A) ∧ Hid (A.length ≤ j)) (fun v11 _ => n - (RowKit.intOf v11).toNat)
  case atStart => exact ⟨0, Fa, Fb, [], rfl, Nat.zero_le _, HD, Lib.hid (Nat.le_refl _)⟩
  case round =>
    clear HD
    obtain ⟨j, Fa, Fb, A, rfl, hj, HD, HAL⟩ := hrel
    have hgo : j < n ∨ j = n := by omega
    rcases hgo with hlt | rfl
    · have hlt' : (j : Int) < (n : Int) := by omega
      have hNb := HB.out
      obtain ⟨ad, k, t, rfl, hkw, hcells⟩ := HL.out j hlt
      have HKW := Lib.hid hkw
      have KE := Lib.hid hcells
      have HMI := Lib.hid (fun w => mine_v k w)
      have HSE : Hid (∀ w p F la A, AH w p F G 0 la A → A.length ≤ 40 → la ≤ 40 → _) := Lib.hid (fun w p F la A (h : AH w p F G 0 la A) (h1 : A.length ≤ 40) (h2 : la ≤ 40) => set_v h k hkw t (by omega) (by omega))
      have HAL4 : Hid (A.length ≤ 40) := Lib.hid (Nat.le_trans HAL.out (by omega))
      have HJ4 : Hid ((j : Int) ≤ 40) := Lib.hid (by omega)
      have HSL1 : Hid ((setA A k (cl t) ((j : Int) + 1)).length ≤ j + 1) := Lib.hid (Nat.le_trans (setA_len _ _ _ _) (by have := HAL.out; omega))
      have HDc := HD
      clear hcells hkw
      go_upto_region 7 with fail
      go_region_held3 (fun V => V.cell? (ad.add (j * 6)) = some (.int .i64 k.a) ∧ V.cell? ⟨(ad.add (j * 6)).block, (ad.add (j * 6)).off + 1, none⟩ = some (.int .i64 k.b) ∧ V.cell? ⟨(ad.add (j * 6)).block, (ad.add (j * 6)).off + 2, none⟩ = some (.int .i64 k.c) ∧ V.cell? ⟨(ad.add (j * 6)).block, (ad.add (j * 6)).off + 3, none⟩ = some (.int .i64 k.d) ∧ V.cell? ⟨(ad.add (j * 6)).block, (ad.add (j * 6)).off + 4, none⟩ = some (.int .i64 k.e) ∧ V.cell? ⟨(ad.add (j * 6)).block, (ad.add (j * 6)).off + 5, none⟩ = some (.int .i64 t)) (first | exact KE.out _ HDc.out.on | exact KE.out _ HDc.out.on.drew) (first
        | (go_at_call 11; refine (HMI.out _).mono ?_; rintro en w5 ⟨rfl, ho⟩; have HDd : Hid (Duo W Keep0 G w5 pa _ 0 _ _ pb _ 0 _ _) := Lib.hid (by first | exact HDc.out.pass ho | exact (HDc.out.pass (Only.refl _ _).drew).pass ho); clear HDc ho; have HDc := HDd; clear HDd)
        | (go_at_call 10; (with_reducible refine (HSE.out _ _ _ _ _ HDc.out.a HAL4.out HJ4.out).mono ?_); rintro en w6 ⟨rfl, F6, hA6, hf6, ho6⟩; have HDd := Lib.hid (HDc.out.left hA6 hf6 ho6); clear HDc hA6 hf6 ho6; have HDc := HDd; clear HDd)
        | (go_at_call 10; (with_reducible refine (HSE.out _ _ _ _ _ HDc.out.b HAL4.out HJ4.out).mono ?_); rintro en w7 ⟨rfl, F7, hA7, hf7, ho7⟩; have HDd := Lib.hid (HDc.out.right hA7 hf7 ho7); clear HDc hA7 hf7 ho7; have HDc := HDd; clear HDd))
      go_wp2
      go_roundw
      case rel => exact ⟨j + 1, F6, F7, _, by go_num, by omega, HDc, HSL1⟩
      case measure => simp [RowKit.intOf]; omega
    · have hge : ¬ (j : Int) < j := by omega
      obtain ⟨X, hX⟩ : ∃ X, X = cl to_ / pw G := ⟨_, rfl⟩
      have HX : Hid (X = mx (cl to_ / pw G) 0) := Lib.hid (by rw [hX]; exact mx_div (n := 0) HG.out.1 HG.out.2 (cl_bounds to_).1)
      have HX0 : Hid (0 ≤ X) := Lib.hid (by rw [hX]; exact Int.ediv_nonneg (cl_bounds to_).1 (by have := pw_cases HG.out.1 HG.out.2; omega))
      have HXS : Hid (∀ x, cl x ≤ cl to_ → cl x / pw G ≤ X) := Lib.hid (fun x hx => by rw [hX]; exact Int.ediv_le_ediv (by have := pw_cases HG.out.1 HG.out.2; omega) hx)
      have HT0 : Hid (Told G (-1) A A []) := Lib.hid (Told.start HD.out.a.sl0)
      have HA4 : Hid (A.length ≤ 40) := Lib.hid (Nat.le_trans HAL.out HB.out)
      have HXE := Lib.hid hX
      clear hX HAL HNEW hj
      go_upto_region 11 with fail
      go_loopw [12, 13] (fun v12 v13 wr => ∃ (i : Nat) (Fb : Nat → Prop) (nb e : Int) (B : List En) (P : List K5), v13 = .int .i64 (i : Int) ∧ i ≤ ns ∧ Hid (Duo W Keep0 G wr pa Fa 0 (j : Int) A pb Fb nb (j : Int) B) ∧ Hid (Told G e A B P) ∧ Hid (-1 ≤ e ∧ e ≤ X ∧ nb = mx e 0) ∧ Hid (Ns wr (fun k => W.heap.size ≤ k ∧ ¬ Fa k ∧ ¬ Fb k) v12 P)) (fun _ v13 _ => ns - (RowKit.intOf v13).toNat)
      case atStart => exact ⟨0, Fb, 0, -1, A, [], rfl, Nat.zero_le _, HD, HT0, Lib.hid ⟨Int.le_refl _, by have := HX0.out; omega, rfl⟩, Lib.hid (Row.nil _ _ _ _)⟩
      case round =>
        clear HD HT0
        obtain ⟨i, Fb, nb, e, B, P, rfl, hi, HT, HTD, HNB, HKP⟩ := hrel
        have hgo2 : i < ns ∨ i = ns := by omega
        rcases hgo2 with hlt | rfl
        · have hlt' : (i : Int) < (ns : Int) := by omega
          have hNb := HBS.out
          obtain ⟨ad, rfl, hx⟩ := Kd.at_int HSL.out (i : Int) (by omega) hlt'
          rw [Int.toNat_natCast] at hx
          obtain ⟨x, hxe⟩ : ∃ x, x = rd st (i : Int) := ⟨_, rfl⟩
          rw [← hxe] at hx
          have hxr : wr.cell? (ad.add i) = some (.int .i64 x) := cell_only hx HT.out.on
          clear hx hxe
          by_cases hle : cl x ≤ cl to_
          · have hd5 : decide (cl x ≤ cl to_) = true := decide_eq_true hle
            obtain ⟨e', he⟩ : ∃ e', e' = mx (cl x / pw G) nb := ⟨_, rfl⟩
            have hav := due_a HT.out.b x he
            have HEN : Hid (e ≤ e' ∧ e' ≤ X ∧ e' = mx e' 0 ∧ -1 ≤ e') := Lib.hid (by
              have h1 := HNB.out
              have h2 := HXS.out x hle
              have h3 := HX0.out
              rw [he]
              unfold mx at h1 ⊢
              split <;> split <;> split at h1 <;> omega)
            have hst := HTD.out.step HEN.out.1
            have HAV := Lib.hid hav
            unfold DueP at HAV
            have HST := Lib.hid hst
            have hlen : P.length + (sortN ((dueA G e' B).map En.n)).length ≤ 100000 := by
              have h6 := hst.2.length_eq
              rw [List.length_append, List.length_map] at h6
              have h7 := List.length_filter_le (fun x : En => decide (sl G x.t ≤ e')) A
              have h8 := HA4.out
              omega
            have HLE := Lib.hid hlen
            clear hle he hav hst hlen
            go_upto_region 14 with (go_at_call 14; refine (HCA.out _ _).mono ?_; rintro e w' ⟨rfl, rfl⟩)
            go_wp2_with (first
              | (go_at_call 13; refine HAV.out.mono ?_; rintro en w2 ⟨v2, F2, rfl, k2, h2, hf2, o2⟩
                 have HT2 := Lib.hid (HT.out.right h2 hf2 o2)
                 have hkp : Ns w2 (fun k => W.heap.size ≤ k ∧ ¬ Fa k ∧ ¬ F2 k) u12 P := Row.to (Row.only HKP.out o2 (fun q hq e => (Row.own HKP.out hq).1.2.2 e)) (fun q hq => ⟨(Row.own HKP.out hq).1.1, (Row.own HKP.out hq).1.2.1, fun hF => by
                   rcases hf2 q hF with h5 | h5
                   · exact (Row.own HKP.out hq).1.2.2 h5
                   · have := (Row.own HKP.out hq).2; omega⟩)
                 obtain ⟨v3, w3, hr3, k3, o3⟩ := Ns.all hkp k2 (fun q hq => ⟨by have := HT2.out.on.size; omega, fun hF => by have := HT2.out.a.flt q hF; omega, fun hF => by have := HT2.out.b.flt q hF; omega⟩) HLE.out 35
                 have HR3 := Lib.hid hr3
                 have HK3 := Lib.hid k3
                 have HT3 := Lib.hid (HT2.out.beside o3 (fun q hq => (Row.own hkp hq).1) (fun _ _ h => h.elim))
                 clear hkp hr3 k3 o3 k2 h2 hf2 o2)
              | ((with_reducible refine gate_builtin (b := .append) (xs := #[.tmp 81, .tmp 87]) rfl ?_); at_builtin; go_loud (refine Go.Lib.wpList_append_run_sl _ rfl (.tmp 81) (.tmp 87) 35 rfl _ _ rfl rfl HR3.out ?_)))
            go_roundw
            case rel => exact ⟨i + 1, F2, e', e', _, _, by go_num, by omega, HT3, HST, Lib.hid ⟨HEN.out.2.2.2, HEN.out.2.1, HEN.out.2.2.1⟩, HK3⟩
            case measure => simp [RowKit.intOf]; omega
          · have hd5 : decide (cl x ≤ cl to_) = false := decide_eq_false hle
            clear hle
            go_wp2_with (go_at_call 14; refine (HCA.out _ _).mono ?_; rintro e w' ⟨rfl, rfl⟩)
            go_roundw
            case rel => exact ⟨i + 1, Fb, nb, e, B, P, by go_num, by omega, HT, HTD, HNB, HKP⟩
            case measure => simp [RowKit.intOf]; omega
        · have hge2 : ¬ (i : Int) < i := by omega
          have hE2 : X = mx (cl to_ / pw G) nb := by
            have h1 := HNB.out
            have h2 := HXE.out
            have h3 := HX0.out
            rw [← h2]
            unfold mx at h1 ⊢
            split at h1 <;> split <;> omega
          have hst := HTD.out.step HNB.out.2.1
          have HST := Lib.hid hst
          have HAV := Lib.hid (due_a HT.out.b to_ hE2)
          unfold DueP at HAV
          have hlen : P.length + (sortN ((dueA G X B).map En.n)).length ≤ 100000 := by
            have h6 := hst.2.length_eq
            rw [List.length_append, List.length_map] at h6
            have h7 := List.length_filter_le (fun x : En => decide (sl G x.t ≤ X)) A
            have h8 := HA4.out
            omega
          have HLE := Lib.hid hlen
          clear hE2 hst hlen
          go_upto_region 16 with (first
              | (go_at_call 13; refine HAV.out.mono ?_; rintro en w2 ⟨v2, F2, rfl, k2, h2, hf2, o2⟩
                 have HT2 := Lib.hid (HT.out.right h2 hf2 o2)
                 have hkp : Ns w2 (fun k => W.heap.size ≤ k ∧ ¬ Fa k ∧ ¬ F2 k) u12 P := Row.to (Row.only HKP.out o2 (fun q hq e => (Row.own HKP.out hq).1.2.2 e)) (fun q hq => ⟨(Row.own HKP.out hq).1.1, (Row.own HKP.out hq).1.2.1, fun hF => by
                   rcases hf2 q hF with h5 | h5
                   · exact (Row.own HKP.out hq).1.2.2 h5
                   · have := (Row.own HKP.out hq).2; omega⟩)
                 obtain ⟨v3, w3, hr3, k3, o3⟩ := Ns.all hkp k2 (fun q hq => ⟨by have := HT2.out.on.size; omega, fun hF => by have := HT2.out.a.flt q hF; omega, fun hF => by have := HT2.out.b.flt q hF; omega⟩) HLE.out 35
                 have HR3 := Lib.hid hr3
                 have HK3 := Lib.hid k3
                 have HT3 := Lib.hid (HT2.out.beside o3 (fun q hq => (Row.own hkp hq).1) (fun _ _ h => h.elim))
                 clear hkp hr3 k3 o3 k2 h2 hf2 o2)
              | ((with_reducible refine gate_builtin (b := .append) (xs := #[.tmp 89, .tmp 92]) rfl ?_); at_builtin; go_loud (refine Go.Lib.wpList_append_run_sl _ rfl (.tmp 89) (.tmp 92) 35 rfl _ _ rfl rfl HR3.out ?_)))
          have HAV2 := Lib.hid (due_a HT3.out.a to_ HX.out)
          unfold DueP at HAV2
          obtain ⟨Z, hZ⟩ : ∃ Z, Z = P ++ sortN ((dueA G X B).map En.n) := ⟨_, rfl⟩
          have hbe := HST.out.end_
          rw [← hZ] at HK3 hbe
          have hnd := names_once HT3.out.a X
          have hdl := due_len G X A
          obtain ⟨Y, hY⟩ : ∃ Y, Y = sortN ((dueA G X A).map En.n) := ⟨_, rfl⟩
          rw [← hY] at HAV2 hbe hnd hdl
          have HYN := Lib.hid hnd
          have HZY := Lib.hid hbe.2
          have HBA := Lib.hid hbe.1
          have hYL := Nat.le_trans hdl HA4.out
          have HYL := Lib.hid hYL
          clear HAV HT2 HT HTD HNB HKP HR3 hZ hY hbe hnd hdl hYL
          go_upto_region 17 with (
             go_at_call 13; refine HAV2.out.mono ?_; rintro en w4 ⟨v4, F4, rfl, k4, h4, hf4, o4⟩
             have HT4 := Lib.hid (HT3.out.left h4 hf4 o4)
             have HK4 := Lib.hid k4
             have HK5 := Lib.hid (Row.only HK3.out o4 (fun q hq e => (Row.own HK3.out hq).1.2.1 e))
             clear k4 h4 hf4 o4)
          have hk4 := HK4.out
          have hk5 := HK5.out
          unfold Ns at hk4
          have hzl := HZY.out.length_eq
          obtain ⟨A4, c4, hv4, _⟩ := Row.form hk4
          obtain ⟨A5, c5, hv5, _⟩ := Row.form hk5
          obtain ⟨m, hm⟩ : ∃ m, m = Y.length := ⟨_, rfl⟩
          rw [hzl, ← hm] at hv5
          rw [← hm] at hv4
          have HM := Lib.hid hm
          have HMZ : Hid (m = Z.length) := Lib.hid (by rw [hzl]; exact hm)
          have HM4 : Hid (m ≤ 40) := Lib.hid (by rw [hm]; exact HYL.out)
          rw [hv4] at HK4
          rw [hv5] at HK5
          subst hv4 hv5
          have HLA : Hid (∀ V, Only (fun _ => False) w4 V → _) := Lib.hid (fun V hV => (HT4.out.pass hV).a.len)
          have HLB : Hid (∀ V, Only (fun _ => False) w4 V → _) := Lib.hid (fun V hV => (HT4.out.pass hV).b.len)
          rw [HBA.out] at HLB
          have HON : Hid (Only (fun _ => False) W w4) := Lib.hid HT4.out.on
          clear hm hk4 hk5 hzl HAV2 HT3 HK3 HT4 HBA
          go_upto_region 18 with fail
          go_loopw [15, 16, 17] (fun v15 _ _ wr => ∃ p : Nat, v15 = .int .i64 (p : Int) ∧ p ≤ m ∧ Hid (Only (fun _ => False) w4 wr)) (fun v15 _ _ _ => m - (RowKit.intOf v15).toNat)
          case atStart => exact ⟨0, rfl, Nat.zero_le _, Lib.hid (Only.refl _ _)⟩
          case round =>
            obtain ⟨p, rfl, hp, HOr⟩ := hrel
            have hmj := HM4.out
            have hgo3 : p < m ∨ p = m := by omega
            rcases hgo3 with hlt | rfl
            · have hlt' : (p : Int) < (m : Int) := by omega
              have hio : p < Y.length := by rw [← HM.out]; exact hlt
              have hge3 : Y[p]? = some Y[p] := List.getElem?_eq_getElem hio
              obtain ⟨y, hy0⟩ : ∃ y, y = Y[p] := ⟨_, rfl⟩
              rw [← hy0] at hge3
              have hyZ : y ∈ Z := HZY.out.mem_iff.2 (List.mem_of_getElem? hge3)
              have H1C := Lib.hid (once ((HZY.out.nodup_iff).2 HYN.out) hyZ)
              obtain ⟨q4, o4, d4, hs4, _⟩ := Row.some_ HK4.out (by rw [← HM.out]; omega)
              injection hs4 with s1 s2 s3
              subst s1 s3
              have HY5 := Lib.hid (HK4.out.at_ HM.out hge3)
              clear hge3 hy0 hio hyZ s2
              go_upto_region 22 with fail
              go_loopw [16, 17] (fun v16 v17 wr2 => ∃ q cnt : Nat, v17 = .int .i64 (q : Int) ∧ q ≤ m ∧ v16 = .int .i64 (cnt : Int) ∧ Hid (cnt = ((Z.take q).filter (fun z => eqK z y)).length) ∧ Hid (Only (fun _ => False) w4 wr2)) (fun _ v17 _ => m - (RowKit.intOf v17).toNat)
              case atStart => exact ⟨0, 0, rfl, Nat.zero_le _, rfl, Lib.hid rfl, HOr⟩
              case round =>
                clear HOr
                obtain ⟨q, cnt, rfl, hq, rfl, HCN, HOr⟩ := hrel
                have hcb : cnt ≤ 40 := by
                  have h1 := HCN.out
                  have h2 := List.length_filter_le (fun z => eqK z y) (Z.take q)
                  rw [List.length_take] at h2
                  omega
                have hgo4 : q < m ∨ q = m := by omega
                rcases hgo4 with hlt4 | rfl
                · have hlt4' : (q : Int) < (m : Int) := by omega
                  have hqz : q < Z.length := by rw [← HMZ.out]; exact hlt4
                  have hge4 : Z[q]? = some Z[q] := List.getElem?_eq_getElem hqz
                  obtain ⟨z, hz0⟩ : ∃ z, z = Z[q] := ⟨_, rfl⟩
                  rw [← hz0] at hge4
                  have HZ := Lib.hid hge4
                  obtain ⟨q5, o5, d5, hs5, _⟩ := Row.some_ HK5.out (by rw [← HMZ.out]; omega)
                  injection hs5 with s1 s2 s3
                  subst s1 s3
                  obtain ⟨z0, z1, z2, z3, z4⟩ := Ns.at_ (HK5.out.only HOr.out (fun _ _ h => h)) HMZ.out hge4
                  obtain ⟨y0, y1, y2, y3, y4⟩ := HY5.out
                  have y0 := cell_only y0 HOr.out
                  have y1 := cell_only y1 HOr.out
                  have y2 := cell_only y2 HOr.out
                  have y3 := cell_only y3 HOr.out
                  have y4 := cell_only y4 HOr.out
                  simp only [Nat.add_zero, ← Nat.add_assoc] at y0 y1 y2 y3 y4 z0 z1 z2 z3 z4
                  obtain ⟨bz, hbz⟩ : ∃ bz, bz = eqK z y := ⟨_, rfl⟩
                  have HBZ := Lib.hid hbz
                  have hbz2 : eqK ⟨z.a, z.b, z.c, z.d, z.e⟩ ⟨y.a, y.b, y.c, y.d, y.e⟩ = bz := hbz.symm
                  clear hge4 hz0 hqz s2 hbz hq
                  go_upto_region 24 with fail
                  cases bz
                  all_goals
                    go_quiet (fail)
                    go_wp2
                    go_roundw
                    case rel =>
                      first
                        | exact ⟨q + 1, cnt, by go_num, by omega, rfl, Lib.hid (by rw [List.take_add_one, HZ.out, HCN.out]; simp [← HBZ.out]), Lib.hid (HOr.out.drewN _)⟩
                        | exact ⟨q + 1, cnt + 1, by go_num, by omega, by go_num, Lib.hid (by rw [List.take_add_one, HZ.out, HCN.out]; simp [← HBZ.out]), Lib.hid (HOr.out.drewN _)⟩
                    case measure => simp [RowKit.intOf]; omega
                · have hge5 : ¬ (q : Int) < q := by omega
                  have hcn : cnt = 1 := by rw [HCN.out, HMZ.out, List.take_length, H1C.out]
                  subst hcn
                  go_wp2
                  go_roundw
                  case rel => exact ⟨p + 1, by go_num, by omega, HOr⟩
                  case measure => simp [RowKit.intOf]; omega
            · have hge3 : ¬ (p : Int) < p := by omega
              go_wp2_with (first
                | (go_at_call 12; (first | with_reducible refine (HLA.out _ HOr.out).mono ?_ | with_reducible refine (HLB.out _ HOr.out).mono ?_); rintro en w' ⟨rfl, rfl⟩)
                | (go_at_call 16; refine (awake_p _).mono ?_; rintro en w6 ⟨rfl, o6⟩; have O6 := Lib.hid o6; clear o6))
              go_ret
              exact ⟨rfl, below_of ((HON.out.trans HOr.out).trans O6.out)⟩
end Go.Proofs.Ytmkcckkjkfmheaa.Al

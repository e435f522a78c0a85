/- Alarm: alarms of unlike names do not matter to each other. -/
import Derived.Test.YtmkcckkjkfmheaaAlI
set_option linter.unusedVariables false
set_option linter.unusedSimpArgs false
set_option maxRecDepth 100000
namespace Go.Proofs.Ytmkcckkjkfmheaa.Al
open Go.RowKit Go.Maps Go.Proofs.Ytmkcckkjkfmheaa.Base Go.Proofs.Ytmkcckkjkfmheaa.Rws Go.Proofs.Ytmkcckkjkfmheaa.Wh Go.Proofs.YtmkcckkjkfmheaaW.PrintWords Go.Proofs.YtmkcckkjkfmheaaW.PrintMore
attribute [local go_sem] max2_mx min2_mn max_two min_two max_three min_three max_four min_four
attribute [local go_sem high] eqK27 eqK33

theorem setA_two {k m : K5} (h : k ≠ m) (t u h1 h2 : Int) : setA [⟨k, t, h1⟩] m u h2 = [⟨k, t, h1⟩, ⟨m, u, h2⟩] := by
  unfold setA
  simp [h]

theorem AH.time {w : World} {p : Nat} {F : Nat → Prop} {G n last : Int} {A : List En} (h : AH w p F G n last A) (k : K5) (hk : k.wf) : Calls Try.prog 17 #[.pointer (some ⟨p, 0, none⟩), k.v] w fun e w' => e = .returned (.tuple #[.int .i64 (timeOf A k).1, .bool (timeOf A k).2]) ∧ Only (fun _ => False) w w' := by
  obtain ⟨gw, bh, bn, bt, FW, hm, hw, hf, hF⟩ := h
  exact time_m hm k hk

theorem CmpPost.only {c : Int} {W : World} {e : Ending} {w' : World} (h : CmpPost c W e w') : e = .returned (.int .i64 c) ∧ Only (fun _ => False) W w' := by
  obtain ⟨he, q, os', rfl⟩ := h
  refine ⟨he, rfl, rfl, rfl, ?_, fun i hi _ => ?_⟩
  · show W.heap.size ≤ (W.heap ++ os').size
    rw [Array.size_append]
    omega
  · show (W.heap ++ os')[i]? = W.heap[i]?
    exact Array.getElem?_append_left hi

theorem ints_f (x y : Int) : PR.hourglassref07_ints.f x y = some (Lib.compareInt x y) := by
  unfold PR.hourglassref07_ints.f
  rcases cI_cases x y with ⟨h, h2⟩ | ⟨h, h2⟩ | ⟨h, h2⟩
  · rw [h2, if_pos h]
  · rw [h2, if_neg (by omega), if_pos h]
  · rw [h2, if_neg (by omega), if_neg (by omega)]

theorem refcmp (x y : K5) : PR.hourglassref11_Compare.f x.a x.b x.c x.d x.e y.a y.b y.c y.d y.e = some (cfN x y) := by
  have hl : ∀ a b : Int, (if a < b then some (-1) else if a > b then some 1 else some 0 : Option Int) = some (Lib.compareInt a b) := fun a b => ints_f a b
  unfold PR.hourglassref11_Compare.f PR.hourglassref07_Keys.f PR.hourglassref07_Compare.f cfN cfY cfD
  simp only [ints_f, hl, Option.bind_some, cI_eq]
  by_cases h0 : x.a = y.a
  · by_cases h1 : x.b = y.b
    · by_cases h2 : x.c = y.c
      · by_cases h3 : x.d = y.d
        · simp [h0, h1, h2, h3, cI_eq]
        · simp [h0, h1, h2, h3, cI_eq]
      · simp [h0, h1, h2, cI_eq]
    · simp [h0, h1, cI_eq]
  · simp [h0, cI_eq]

theorem cmpR_p (x y : K5) (w : World) : Calls Try.prog 19 #[x.v, y.v] w fun e w' => e = .returned (.int .i64 (cfN x y)) ∧ Only (fun _ => False) w w' :=
  (PR.hourglassref11_Compare.calls x.a x.b x.c x.d x.e y.a y.b y.c y.d y.e (cfN x y) w (refcmp x y)).mono fun e w' h => ⟨h.1, Only.of_below h.2⟩

theorem cmpA_p (x y : K5) (w : World) : Calls Try.prog 18 #[x.v, y.v] w fun e w' => e = .returned (.int .i64 (cfN x y)) ∧ Only (fun _ => False) w w' :=
  (cmpN_p x y w).mono fun e w' h => h.only

/-! ### What is due of one, and of two -/
theorem sort_len (L : List K5) : (sortN L).length = L.length := (sortN_perm L).length_eq

theorem apart_count {n m : K5} (h : n ≠ m) (G X t u h1 h2 : Int) : ((sortN ((dueA G X [⟨n, t, h1⟩, ⟨m, u, h2⟩]).map En.n)).filter (fun z => eqK z n)).length = (sortN ((dueA G X [⟨n, t, h1⟩]).map En.n)).length := by
  rw [((sortN_perm _).filter _).length_eq, sort_len]
  have e1 : eqK n n = true := (eqK_iff n n).2 rfl
  have e2 : eqK m n = false := by
    rw [eqK_dec]
    exact decide_eq_false (fun e => h e.symm)
  unfold dueA
  by_cases d1 : sl G t ≤ X <;> by_cases d2 : sl G u ≤ X <;> simp [d1, d2, e1, e2]

theorem apart_len (G X : Int) (n m : K5) (t u h1 h2 : Int) : (sortN ((dueA G X [⟨n, t, h1⟩, ⟨m, u, h2⟩]).map En.n)).length ≤ 2 := by
  rw [sort_len, List.length_map]
  exact List.length_filter_le _ _

theorem apart_time {n m : K5} (h : n ≠ m) (G X t u h1 h2 : Int) : timeOf (leftA G X [⟨n, t, h1⟩, ⟨m, u, h2⟩]) n = timeOf (leftA G X [⟨n, t, h1⟩]) n := by
  unfold timeOf leftA
  have hm : ¬ m = n := fun e => h e.symm
  by_cases d1 : X < sl G t <;> by_cases d2 : X < sl G u <;> simp [d1, d2, hm]

def KeepNM (N M : Nat) (n m : K5) (g : Nat) (o : Obj) : Prop := (g = N ∧ o = boxR n) ∨ (g = M ∧ o = boxR m)

set_option maxHeartbeats 32000000 in
theorem apart_walk (g : Int) (n m : K5) (hn : n.wf) (hm : m.wf) (t u ask : Int) (W : World) : Calls Try.prog 5 #[.int .i64 g, n.v, m.v, .int .i64 t, .int .i64 u, .int .i64 ask] W fun e w' => e = .returned (.bool true) ∧ Below W.heap.size W w' := by
  obtain ⟨w1, hw1⟩ : ∃ w1, w1 = W.alloc (boxR n) := ⟨_, rfl⟩
  obtain ⟨w2, hw2⟩ : ∃ w2, w2 = w1.alloc (boxR m) := ⟨_, rfl⟩
  obtain ⟨N, hN⟩ : ∃ N, N = W.heap.size := ⟨_, rfl⟩
  obtain ⟨M, hM⟩ : ∃ M, M = N + 1 := ⟨_, rfl⟩
  have hs1 : w1.heap.size = N + 1 := by rw [hw1, hN]; show (W.heap.push _).size = _; simp
  have hb1 : w2.heap[N]? = some (boxR n) := by rw [hw2]; refine (heap_alloc_old w1 _ (by omega)).trans ?_; rw [hw1, hN]; exact heap_alloc_new W _
  have hb2 : w2.heap[M]? = some (boxR m) := by rw [hw2, hM, ← hs1]; exact heap_alloc_new w1 _
  have hO : Only (fun _ => False) W w2 := by rw [hw2, hw1]; exact ((Only.refl _ W).alloc _).alloc _
  obtain ⟨y0, y1, y2, y3, y4⟩ := boxR_cells hb1
  obtain ⟨z0, z1, z2, z3, z4⟩ := boxR_cells hb2
  have HB1 := Lib.hid hb1
  have HB2 := Lib.hid hb2
  have HO := Lib.hid hO
  have HMN := Lib.hid (fun w => mine_p n w)
  have HMM := Lib.hid (fun w => mine_p m w)
  have HCA := Lib.hid (fun w => cmpA_p n m w)
  have HCR := Lib.hid (fun w => cmpR_p n m w)
  obtain ⟨cc, hcc⟩ : ∃ cc, cc = cfN n m := ⟨_, rfl⟩
  rw [← hcc] at HCA HCR
  have HNW := Lib.hid hn
  have HMW := Lib.hid hm
  have HEQ := Lib.hid (eqK_iff n m)
  have HNEW : Hid (∀ w, _) := Lib.hid (fun w => new_a g w)
  have hG := clg_bd g
  obtain ⟨G, hGG⟩ : ∃ G, G = clg g := ⟨_, rfl⟩
  rw [← hGG] at HNEW hG
  have HG := Lib.hid hG
  have HYC : Hid (∀ V : World, V.heap[N]? = some (boxR n) → _) := Lib.hid (fun V hV => boxR_cells hV)
  have HZC : Hid (∀ V : World, V.heap[M]? = some (boxR m) → _) := Lib.hid (fun V hV => boxR_cells hV)
  obtain ⟨⟨a, b', c, d, e⟩, hnn⟩ : ∃ z, z = n := ⟨_, rfl⟩
  obtain ⟨⟨a', b2, c', d', e'⟩, hmm⟩ : ∃ z, z = m := ⟨_, rfl⟩
  have hwn : w1 = W.alloc (.cells #[.int .i64 a, .int .i64 b', .int .i64 c, .int .i64 d, .int .i64 e] 27) := by rw [hw1, ← hnn]; rfl
  have hwm : w2 = w1.alloc (.cells #[.int .i64 a', .int .i64 b2, .int .i64 c', .int .i64 d', .int .i64 e'] 27) := by rw [hw2, ← hmm]; rfl
  have HNN := Lib.hid hnn
  have hnv : n.v = .agg #[.int .i64 a, .int .i64 b', .int .i64 c, .int .i64 d, .int .i64 e] := by rw [← hnn]; rfl
  have hmv : m.v = .agg #[.int .i64 a', .int .i64 b2, .int .i64 c', .int .i64 d', .int .i64 e'] := by rw [← hmm]; rfl
  rw [hnv, hmv] at HCA HCR
  rw [hnv] at HMN ⊢
  rw [hmv] at HMM ⊢
  have HNV := Lib.hid hnv
  have HMV := Lib.hid hmv
  have e1 : n.a = a ∧ n.b = b' ∧ n.c = c ∧ n.d = d ∧ n.e = e := by rw [← hnn]; exact ⟨rfl, rfl, rfl, rfl, rfl⟩
  have e2 : m.a = a' ∧ m.b = b2 ∧ m.c = c' ∧ m.d = d' ∧ m.e = e' := by rw [← hmm]; exact ⟨rfl, rfl, rfl, rfl, rfl⟩
  rw [e1.1, e1.2.1, e1.2.2.1, e1.2.2.2.1, e1.2.2.2.2] at HYC
  rw [e2.1, e2.2.1, e2.2.2.1, e2.2.2.2.1, e2.2.2.2.2] at HZC
  rw [e1.1] at y0
  rw [e1.2.1] at y1
  rw [e1.2.2.1] at y2
  rw [e1.2.2.2.1] at y3
  rw [e1.2.2.2.2] at y4
  rw [e2.1] at z0
  rw [e2.2.1] at z1
  rw [e2.2.2.1] at z2
  rw [e2.2.2.2.1] at z3
  rw [e2.2.2.2.2] at z4
  obtain ⟨q, hq⟩ : ∃ q, q = eqK ⟨a, b', c, d, e⟩ ⟨a', b2, c', d', e'⟩ := ⟨_, rfl⟩
  have HQ : Hid (q = true ↔ n = m) := by rw [hq, hnn, hmm]; exact HEQ
  have hq2 := hq.symm
  clear hw1 hw2 hb1 hb2 hO hn hm hnn hmm hnv hmv hq e1 e2 hcc hG hGG hs1
  go_enter Try.func5, Try.ntmps5
  go_upto_region 1 with fail
  rw [← hwn, ← hwm, ← hN, ← hM]
  clear hwn hwm hN hM
  cases q with
  | true =>
    go_wp2_with (go_at_call 16; refine (awake_p _).mono ?_; rintro en w9 ⟨rfl, ho9⟩; have HO9 := Lib.hid ho9; clear ho9)
    go_ret
    exact ⟨rfl, below_of (HO.out.trans HO9.out)⟩
  | false =>
    have HNE : Hid (n ≠ m) := Lib.hid (fun h => by have := HQ.out.2 h; cases this)
    go_wp2_with fail
    go_at_call 8
    refine (HNEW.out _).mono ?_
    rintro en w3 ⟨pa, Fa, rfl, hA, hfa, ho3⟩
    have HA3 := Lib.hid hA
    have HFA := Lib.hid hfa
    have HO3 := Lib.hid ho3
    clear hA hfa ho3 hq2 y0 y1 y2 y3 y4 z0 z1 z2 z3 z4
    go_upto_region 4 with (go_at_call 8; refine (HNEW.out _).mono ?_; rintro en w4 ⟨pb, Fb, rfl, hB, hfb, ho4⟩; have HB4 := Lib.hid hB; have HFB := Lib.hid hfb; have HO4 := Lib.hid ho4; clear hB hfb ho4)
    have HD : Hid (Duo W (KeepNM N M n m) G w4 pa Fa 0 0 [] pb Fb 0 0 []) := Lib.hid ⟨HA3.out.only HO4.out (fun _ _ h => h), HB4.out, fun k hk hk2 => by have := HA3.out.flt k hk; have := HFB.out k hk2; omega,
      fun k hk => Nat.le_trans HO.out.size (HFA.out k hk), fun k hk => Nat.le_trans (Nat.le_trans HO.out.size HO3.out.size) (HFB.out k hk), (HO.out.trans HO3.out).trans HO4.out, fun g o hk => by
        rcases hk with ⟨rfl, rfl⟩ | ⟨rfl, rfl⟩
        · exact ⟨HO4.out.blk (HO3.out.blk HB1.out (fun h => h)) (fun h => h), fun h => by have := HFA.out _ h; have := blk_lt HB1.out; omega, fun h => by have := HFB.out _ h; have := blk_lt HB1.out; have := HO3.out.size; omega⟩
        · exact ⟨HO4.out.blk (HO3.out.blk HB2.out (fun h => h)) (fun h => h), fun h => by have := HFA.out _ h; have := blk_lt HB2.out; omega, fun h => by have := HFB.out _ h; have := blk_lt HB2.out; have := HO3.out.size; omega⟩⟩
    clear HB1 HB2 HA3 HFA HO3 HB4 HFB HO4 HO
    -- a.Set(n, t)
    obtain ⟨y0, y1, y2, y3, y4⟩ := HYC.out _ (HD.out.kp N _ (.inl ⟨rfl, rfl⟩)).1
    go_wp2_with fail
    go_at_call 11
    refine (HMN.out _).mono ?_
    rintro en w5 ⟨rfl, ho⟩
    have HD5 := Lib.hid (HD.out.pass ho)
    have HST := Lib.hid (set_a HD5.out.a n HNW.out t (by simp) (by decide))
    rw [setA_nil, HNV.out] at HST
    clear ho HD y0 y1 y2 y3 y4
    go_upto_region 5 with (go_at_call 10; refine HST.out.mono ?_; rintro en w6 ⟨rfl, Fa6, hA6, hf6, ho6⟩; have HD6 := Lib.hid (HD5.out.left hA6 hf6 ho6); clear hA6 hf6 ho6)
    -- b.Set(n, t)
    obtain ⟨y0, y1, y2, y3, y4⟩ := HYC.out _ (HD6.out.kp N _ (.inl ⟨rfl, rfl⟩)).1
    clear HST HD5
    go_wp2_with fail
    go_at_call 11
    refine (HMN.out _).mono ?_
    rintro en w7 ⟨rfl, ho⟩
    have HD7 := Lib.hid (HD6.out.pass ho)
    have HST := Lib.hid (set_a HD7.out.b n HNW.out t (by simp) (by decide))
    rw [setA_nil, HNV.out] at HST
    clear ho HD6 y0 y1 y2 y3 y4
    go_upto_region 6 with (go_at_call 10; refine HST.out.mono ?_; rintro en w8 ⟨rfl, Fb8, hA8, hf8, ho8⟩; have HD8 := Lib.hid (HD7.out.right hA8 hf8 ho8); clear hA8 hf8 ho8)
    -- b.Set(m, u)
    obtain ⟨z0, z1, z2, z3, z4⟩ := HZC.out _ (HD8.out.kp M _ (.inr ⟨rfl, rfl⟩)).1
    clear HST HD7
    go_wp2_with fail
    go_at_call 11
    refine (HMM.out _).mono ?_
    rintro en w9 ⟨rfl, ho⟩
    have HD9 := Lib.hid (HD8.out.pass ho)
    have HST := Lib.hid (set_a HD9.out.b m HMW.out u (by simp) (by decide))
    rw [setA_two HNE.out, HMV.out] at HST
    clear ho HD8 z0 z1 z2 z3 z4
    go_upto_region 7 with (go_at_call 10; refine HST.out.mono ?_; rintro en w10 ⟨rfl, Fb10, hA10, hf10, ho10⟩; have HD10 := Lib.hid (HD9.out.right hA10 hf10 ho10); clear hA10 hf10 ho10)
    clear HST HD9
    -- a.Due(ask), b.Due(ask)
    have hcx := cl_bounds ask
    obtain ⟨X, hX⟩ : ∃ X, X = cl ask / pw G := ⟨_, rfl⟩
    have hmx : X = mx (cl ask / pw G) 0 := by rw [hX]; exact mx_div (n := 0) HG.out.1 HG.out.2 hcx.1
    have HMX := Lib.hid hmx
    have HDU := Lib.hid (due_a HD10.out.a ask hmx)
    unfold DueP at HDU
    obtain ⟨Lx, hLx⟩ : ∃ Lx, Lx = sortN ((dueA G X [⟨n, cl t, 0 + 1⟩]).map En.n) := ⟨_, rfl⟩
    obtain ⟨Ly, hLy⟩ : ∃ Ly, Ly = sortN ((dueA G X [⟨n, cl t, 0 + 1⟩, ⟨m, cl u, 0 + 1 + 1⟩]).map En.n) := ⟨_, rfl⟩
    have hct : (Ly.filter (fun z => eqK z n)).length = Lx.length := by rw [hLx, hLy]; exact apart_count HNE.out _ _ _ _ _ _
    have hcl : Ly.length ≤ 2 := by rw [hLy]; exact apart_len _ _ _ _ _ _ _ _
    have htm := apart_time HNE.out G X (cl t) (cl u) (0 + 1) (0 + 1 + 1)
    rw [← hLx] at HDU
    have HCT := Lib.hid hct
    have HTM := Lib.hid htm
    have HLY := Lib.hid hLy
    obtain ⟨LX, hLX⟩ : ∃ LX, LX = Lx.length := ⟨_, rfl⟩
    obtain ⟨LY, hLY⟩ : ∃ LY, LY = Ly.length := ⟨_, rfl⟩
    have HLX := Lib.hid hLX
    have HLYn := Lib.hid hLY
    have hLY2 : LY ≤ 2 := by omega
    clear hX hmx hLx hLy hct hcl htm hLX hLY hcx
    go_wp2_with fail
    go_at_call 13
    refine HDU.out.mono ?_
    rintro en w11 ⟨vx, Fa11, rfl, htx, hA11, hf11, ho11⟩
    have HD11 := Lib.hid (HD10.out.left hA11 hf11 ho11)
    obtain ⟨Ax, cx, hvx, _⟩ := Row.form htx
    rw [← HLX.out] at hvx
    subst hvx
    have HDV := Lib.hid (due_a HD11.out.b ask HMX.out)
    unfold DueP at HDV
    rw [← HLY.out] at HDV
    clear htx hA11 hf11 ho11 HD10 HDU
    go_upto_region 8 with (go_at_call 13; refine HDV.out.mono ?_; rintro en w12 ⟨vy, Fb12, rfl, hty, hA12, hf12, ho12⟩; obtain ⟨Ay, cy, hvy, _⟩ := Row.form hty; rw [← HLYn.out] at hvy; subst hvy; have HTY := Lib.hid hty; have HD12 := Lib.hid (HD11.out.right hA12 hf12 ho12); clear hA12 hf12 ho12 hty)
    clear HDV HD11
    go_upto_region 10 with fail
    go_loopw [17, 18] (fun v17 v18 wr => ∃ i cnt : Nat, v18 = .int .i64 (i : Int) ∧ i ≤ LY ∧ v17 = .int .i64 (cnt : Int) ∧ Hid (cnt = ((Ly.take i).filter (fun z => eqK z n)).length) ∧ Hid (Only (fun _ => False) w12 wr)) (fun _ v18 _ => LY - (RowKit.intOf v18).toNat)
    case atStart => exact ⟨0, 0, rfl, Nat.zero_le _, rfl, Lib.hid rfl, Lib.hid (Only.refl _ _)⟩
    case round =>
      obtain ⟨i, cnt, rfl, hi, rfl, HCN, HOc⟩ := hrel
      have hgo : i < LY ∨ i = LY := by omega
      rcases hgo with hlt | rfl
      · have hlt' : (i : Int) < (LY : Int) := by omega
        have hiL : i < Ly.length := by rw [← HLYn.out]; exact hlt
        have hz : Ly[i]? = some Ly[i] := List.getElem?_eq_getElem hiL
        obtain ⟨z, hzz⟩ : ∃ z, z = Ly[i] := ⟨_, rfl⟩
        rw [← hzz] at hz
        have hcb : cnt ≤ 2 := by
          have h1 := HCN.out
          have h2 := List.length_filter_le (fun z => eqK z n) (Ly.take i)
          rw [List.length_take] at h2
          omega
        have hTr := HTY.out
        obtain ⟨q1, o1, c1, he, _⟩ := Row.some_ hTr (by omega)
        injection he with e1 e2 e3
        subst e1 e3
        clear e2
        have KE : Hid (∀ V, Only (fun _ => False) w12 V → (V.cell? ⟨q1, o1 + i * 5, none⟩ = some (.int .i64 z.a) ∧ V.cell? ⟨q1, o1 + i * 5 + 1, none⟩ = some (.int .i64 z.b) ∧ V.cell? ⟨q1, o1 + i * 5 + 2, none⟩ = some (.int .i64 z.c) ∧ V.cell? ⟨q1, o1 + i * 5 + 3, none⟩ = some (.int .i64 z.d) ∧ V.cell? ⟨q1, o1 + i * 5 + 4, none⟩ = some (.int .i64 z.e)) ∧ V.cell? ⟨N, 0, none⟩ = some (.int .i64 a) ∧ V.cell? ⟨N, 1, none⟩ = some (.int .i64 b') ∧ V.cell? ⟨N, 2, none⟩ = some (.int .i64 c) ∧ V.cell? ⟨N, 3, none⟩ = some (.int .i64 d) ∧ V.cell? ⟨N, 4, none⟩ = some (.int .i64 e)) := Lib.hid (fun V hV => ⟨Ns.at_ (hTr.only hV (fun _ _ h => h)) HLYn.out hz, HYC.out _ (hV.blk (HD12.out.kp N _ (.inl ⟨rfl, rfl⟩)).1 (fun h => h))⟩)
        have HZ := Lib.hid hz
        obtain ⟨⟨za, zb, zc, zd, ze⟩, hzv⟩ : ∃ zz, zz = z := ⟨_, rfl⟩
        obtain ⟨bz, hbz⟩ : ∃ bz, bz = eqK ⟨za, zb, zc, zd, ze⟩ ⟨a, b', c, d, e⟩ := ⟨_, rfl⟩
        have HBZ : Hid (bz = eqK z n) := Lib.hid (by rw [hbz, hzv, HNN.out])
        rw [← hzv] at KE
        simp only at KE
        have hbz2 := hbz.symm
        clear hi hiL hz hzz hTr hzv hbz
        go_upto_region 12 with fail
        cases bz
        all_goals
          go_region_held3 (fun V => (V.cell? ⟨q1, o1 + i * 5, none⟩ = some (.int .i64 za) ∧ V.cell? ⟨q1, o1 + i * 5 + 1, none⟩ = some (.int .i64 zb) ∧ V.cell? ⟨q1, o1 + i * 5 + 2, none⟩ = some (.int .i64 zc) ∧ V.cell? ⟨q1, o1 + i * 5 + 3, none⟩ = some (.int .i64 zd) ∧ V.cell? ⟨q1, o1 + i * 5 + 4, none⟩ = some (.int .i64 ze)) ∧ V.cell? ⟨N, 0, none⟩ = some (.int .i64 a) ∧ V.cell? ⟨N, 1, none⟩ = some (.int .i64 b') ∧ V.cell? ⟨N, 2, none⟩ = some (.int .i64 c) ∧ V.cell? ⟨N, 3, none⟩ = some (.int .i64 d) ∧ V.cell? ⟨N, 4, none⟩ = some (.int .i64 e)) (first | exact KE.out _ HOc.out | exact KE.out _ HOc.out.drew) ((go_at_call 11; refine (HMN.out _).mono ?_; rintro en w13 ⟨rfl, ho⟩; have HOd : Hid (Only (fun _ => False) w12 w13) := Lib.hid (by first | exact HOc.out.trans ho | exact HOc.out.drew.trans ho); clear HOc ho; have HOc := HOd; clear HOd))
          go_wp2
          go_roundw
          case rel =>
            first
              | exact ⟨i + 1, cnt, by go_num, by omega, rfl, Lib.hid (by rw [List.take_add_one, HZ.out, HCN.out]; simp [← HBZ.out]), HOc⟩
              | exact ⟨i + 1, cnt + 1, by go_num, by omega, by go_num, Lib.hid (by rw [List.take_add_one, HZ.out, HCN.out]; simp [← HBZ.out]), HOc⟩
          case measure => simp [RowKit.intOf]; omega
      · have hge : ¬ (i : Int) < i := by omega
        have hcn : cnt = LX := by rw [HCN.out, HLYn.out, List.take_length, HCT.out, HLX.out]
        subst hcn
        have HDr := Lib.hid (HD12.out.pass HOc.out)
        obtain ⟨y0, y1, y2, y3, y4⟩ := HYC.out _ (HDr.out.kp N _ (.inl ⟨rfl, rfl⟩)).1
        clear HCN HOc hi
        go_wp2_with fail
        go_at_call 11
        refine (HMN.out _).mono ?_
        rintro en w14 ⟨rfl, ho⟩
        have HD14 := Lib.hid (HDr.out.pass ho)
        have HTA := Lib.hid (HD14.out.a.time n HNW.out)
        obtain ⟨⟨s, ok⟩, hso⟩ : ∃ z, z = timeOf (leftA G X [⟨n, cl t, 0 + 1⟩]) n := ⟨_, rfl⟩
        rw [← hso, HNV.out] at HTA
        simp only at HTA
        have HSO := Lib.hid hso
        clear ho HDr y0 y1 y2 y3 y4 hso
        go_upto_region 15 with (go_at_call 17; refine HTA.out.mono ?_; rintro en w15 ⟨rfl, ho⟩; have HD15 := Lib.hid (HD14.out.pass ho); clear ho)
        obtain ⟨y0, y1, y2, y3, y4⟩ := HYC.out _ (HD15.out.kp N _ (.inl ⟨rfl, rfl⟩)).1
        clear HTA HD14
        go_wp2_with fail
        go_at_call 11
        refine (HMN.out _).mono ?_
        rintro en w16 ⟨rfl, ho⟩
        have HD16 := Lib.hid (HD15.out.pass ho)
        have HTA := Lib.hid (HD16.out.b.time n HNW.out)
        rw [HTM.out, ← HSO.out, HNV.out] at HTA
        simp only at HTA
        clear ho HD15 y0 y1 y2 y3 y4
        go_upto_region 16 with (go_at_call 17; refine HTA.out.mono ?_; rintro en w17 ⟨rfl, ho⟩; have HD17 := Lib.hid (HD16.out.pass ho); clear ho)
        clear HTA HD16
        have HOc : Hid (Only (fun _ => False) w17 w17) := Lib.hid (Only.refl _ _)
        have KE : Hid (∀ V, Only (fun _ => False) w17 V → (V.cell? ⟨N, 0, none⟩ = some (.int .i64 a) ∧ V.cell? ⟨N, 1, none⟩ = some (.int .i64 b') ∧ V.cell? ⟨N, 2, none⟩ = some (.int .i64 c) ∧ V.cell? ⟨N, 3, none⟩ = some (.int .i64 d) ∧ V.cell? ⟨N, 4, none⟩ = some (.int .i64 e)) ∧ V.cell? ⟨M, 0, none⟩ = some (.int .i64 a') ∧ V.cell? ⟨M, 1, none⟩ = some (.int .i64 b2) ∧ V.cell? ⟨M, 2, none⟩ = some (.int .i64 c') ∧ V.cell? ⟨M, 3, none⟩ = some (.int .i64 d') ∧ V.cell? ⟨M, 4, none⟩ = some (.int .i64 e')) := Lib.hid (fun V hV => ⟨HYC.out _ (hV.blk (HD17.out.kp N _ (.inl ⟨rfl, rfl⟩)).1 (fun h => h)), HZC.out _ (hV.blk (HD17.out.kp M _ (.inr ⟨rfl, rfl⟩)).1 (fun h => h))⟩)
        go_region_held3 (fun V => (V.cell? ⟨N, 0, none⟩ = some (.int .i64 a) ∧ V.cell? ⟨N, 1, none⟩ = some (.int .i64 b') ∧ V.cell? ⟨N, 2, none⟩ = some (.int .i64 c) ∧ V.cell? ⟨N, 3, none⟩ = some (.int .i64 d) ∧ V.cell? ⟨N, 4, none⟩ = some (.int .i64 e)) ∧ V.cell? ⟨M, 0, none⟩ = some (.int .i64 a') ∧ V.cell? ⟨M, 1, none⟩ = some (.int .i64 b2) ∧ V.cell? ⟨M, 2, none⟩ = some (.int .i64 c') ∧ V.cell? ⟨M, 3, none⟩ = some (.int .i64 d') ∧ V.cell? ⟨M, 4, none⟩ = some (.int .i64 e')) (first | exact KE.out _ HOc.out | exact KE.out _ HOc.out.drew) (first
          | (go_at_call 11; (first | with_reducible refine (HMN.out _).mono ?_ | with_reducible refine (HMM.out _).mono ?_); rintro en w18 ⟨rfl, ho⟩; have HOd : Hid (Only (fun _ => False) w17 w18) := Lib.hid (by first | exact HOc.out.trans ho | exact HOc.out.drew.trans ho); clear HOc ho; have HOc := HOd; clear HOd)
          | (go_at_call 18; refine (HCA.out _).mono ?_; rintro en w19 ⟨rfl, ho⟩; have HOd : Hid (Only (fun _ => False) w17 w19) := Lib.hid (by first | exact HOc.out.trans ho | exact HOc.out.drew.trans ho); clear HOc ho; have HOc := HOd; clear HOd)
          | (go_at_call 19; refine (HCR.out _).mono ?_; rintro en w20 ⟨rfl, ho⟩; have HOd : Hid (Only (fun _ => False) w17 w20) := Lib.hid (by first | exact HOc.out.trans ho | exact HOc.out.drew.trans ho); clear HOc ho; have HOc := HOd; clear HOd)
          | (go_at_call 16; refine (awake_p _).mono ?_; rintro en w21 ⟨rfl, ho⟩; have HOd : Hid (Only (fun _ => False) w17 w21) := Lib.hid (by first | exact HOc.out.trans ho | exact HOc.out.drew.trans ho); clear HOc ho; have HOc := HOd; clear HOd))
        go_wp2
        go_ret
        exact ⟨rfl, below_of (HD17.out.on.trans HOc.out)⟩
end Go.Proofs.Ytmkcckkjkfmheaa.Al

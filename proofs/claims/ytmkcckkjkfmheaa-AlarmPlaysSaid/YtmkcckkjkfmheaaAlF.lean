/- Alarm: told no earlier than its time, and by a grain later at the most. -/
import Derived.Test.YtmkcckkjkfmheaaAlX
set_option linter.unusedVariables false
set_option linter.unusedSimpArgs false
set_option maxRecDepth 100000
namespace Go.Proofs.Ytmkcckkjkfmheaa.Al
open Go.RowKit Go.Maps Go.Proofs.Ytmkcckkjkfmheaa.Base Go.Proofs.Ytmkcckkjkfmheaa.Rws Go.Proofs.Ytmkcckkjkfmheaa.Wh Go.Proofs.YtmkcckkjkfmheaaW.PrintWords Go.Proofs.YtmkcckkjkfmheaaW.PrintMore
attribute [local go_sem] max2_mx min2_mn max_two min_two max_three min_three max_four min_four

/-- A name of the document's in a cell. -/
def boxR (k : K5) : Obj := .cells #[.int .i64 k.a, .int .i64 k.b, .int .i64 k.c, .int .i64 k.d, .int .i64 k.e] 27

/-- Own blocks, all made since W. -/
structure Since (W w : World) (F : Nat → Prop) : Prop where
  fr : ∀ k, F k → W.heap.size ≤ k
  on : Only (fun _ => False) W w

theorem Since.step {W w w' : World} {F F' : Nat → Prop} (h : Since W w F) (hf : ∀ k, F' k → F k ∨ w.heap.size ≤ k) (ho : Only F w w') : Since W w' F' :=
  ⟨fun k hk => (hf k hk).elim (h.fr k) (fun h2 => Nat.le_trans h.on.size h2), h.on.then_ ho (fun k hk => .inr (h.fr k hk))⟩
theorem Since.pass {W w w' : World} {F : Nat → Prop} (h : Since W w F) (ho : Only (fun _ => False) w w') : Since W w' F := ⟨h.fr, h.on.trans ho⟩

/-- A block beside own blocks. -/
structure Side (w : World) (F : Nat → Prop) (N : Nat) (o : Obj) : Prop where
  blk : w.heap[N]? = some o
  nf : ¬ F N

theorem Side.step {w w' : World} {F F' : Nat → Prop} {N : Nat} {o : Obj} (h : Side w F N o) (hf : ∀ k, F' k → F k ∨ w.heap.size ≤ k) (ho : Only F w w') : Side w' F' N o :=
  ⟨ho.blk h.blk h.nf, fun h2 => (hf N h2).elim h.nf (fun h3 => by have := blk_lt h.blk; omega)⟩
theorem Side.pass {w w' : World} {F : Nat → Prop} {N : Nat} {o : Obj} (h : Side w F N o) (ho : Only (fun _ => False) w w') : Side w' F N o := ⟨ho.blk h.blk (fun h => h), h.nf⟩

theorem Side.cells {w : World} {F : Nat → Prop} {N : Nat} {k : K5} (h : Side w F N (boxR k)) : w.cell? ⟨N, 0, none⟩ = some (.int .i64 k.a) ∧ w.cell? ⟨N, 1, none⟩ = some (.int .i64 k.b) ∧ w.cell? ⟨N, 2, none⟩ = some (.int .i64 k.c) ∧ w.cell? ⟨N, 3, none⟩ = some (.int .i64 k.d) ∧ w.cell? ⟨N, 4, none⟩ = some (.int .i64 k.e) :=
  ⟨cell_at h.blk 0 rfl, cell_at h.blk 1 rfl, cell_at h.blk 2 rfl, cell_at h.blk 3 rfl, cell_at h.blk 4 rfl⟩

theorem due_facts {G : Int} (h0 : 0 ≤ G) (h1 : G ≤ 6) {c x : Int} (hc : 0 ≤ c) (hx : 0 ≤ x) : (sl G c ≤ x / pw G ↔ sl G c * pw G ≤ x) ∧ (sl G c ≤ x / pw G → c ≤ x) ∧ (¬ sl G c ≤ x / pw G → x - c < pw G) := by
  unfold sl
  rcases pw_cases h0 h1 with ⟨_, h⟩ | ⟨_, h⟩ | ⟨_, h⟩ | ⟨_, h⟩ | ⟨_, h⟩ | ⟨_, h⟩ | ⟨_, h⟩ <;> rw [h] <;> omega

theorem setA_same (k : K5) (t h t2 h2 : Int) : setA [⟨k, t, h⟩] k t2 h2 = [⟨k, t2, h2⟩] := by
  unfold setA
  simp

theorem mx_div {G x n : Int} (h0 : 0 ≤ G) (h1 : G ≤ 6) (hx : 0 ≤ x) : x / pw G = mx (x / pw G) 0 := by
  unfold mx
  have : 0 ≤ x / pw G := Int.ediv_nonneg hx (by have := pw_cases h0 h1; omega)
  split <;> omega

set_option maxHeartbeats 16000000 in
theorem exact_walk (g : Int) (k : K5) (hk : k.wf) (t again ask : Int) (W : World) : Calls Try.prog 3 #[.int .i64 g, k.v, .int .i64 t, .int .i64 again, .int .i64 ask] W fun e w' => e = .returned (.bool true) ∧ Below W.heap.size W w' := by
  obtain ⟨w1, hw1⟩ : ∃ w1, w1 = W.alloc (boxR k) := ⟨_, rfl⟩
  obtain ⟨N, hN⟩ : ∃ N, N = W.heap.size := ⟨_, rfl⟩
  have hb1 : w1.heap[N]? = some (boxR k) := by rw [hw1, hN]; exact heap_alloc_new W _
  have HB1 := Lib.hid hb1
  have HO1 : Hid (Only (fun _ => False) W w1) := by rw [hw1]; exact Lib.hid ((Only.refl _ W).alloc _)
  have HNW := Lib.hid (new_a g w1)
  have HMI := Lib.hid (fun w => mine_p k w)
  have HKW := Lib.hid hk
  have hG := clg_bd g
  obtain ⟨G, hGG⟩ : ∃ G, G = clg g := ⟨_, rfl⟩
  rw [← hGG] at HNW hG
  have HG := Lib.hid hG
  obtain ⟨q, hq⟩ : ∃ q, q = pw G := ⟨_, rfl⟩
  have HQ := Lib.hid hq
  have hq1 : ¬ q < 1 := by have := pw_cases hG.1 hG.2; omega
  have hq2 : ¬ 64 < q := by have := pw_cases hG.1 hG.2; omega
  obtain ⟨⟨a, b', c, d, e⟩, hkk⟩ : ∃ z, z = k := ⟨_, rfl⟩
  have hwk : w1 = W.alloc (.cells #[.int .i64 a, .int .i64 b', .int .i64 c, .int .i64 d, .int .i64 e] 27) := by rw [hw1, ← hkk]; rfl
  have HKK := Lib.hid hkk
  have hkv : k.v = .agg #[.int .i64 a, .int .i64 b', .int .i64 c, .int .i64 d, .int .i64 e] := by rw [← hkk]; rfl
  rw [hkv] at HMI ⊢
  have HKV := Lib.hid hkv
  clear hw1 hb1 hk hG hGG hq hkk hkv
  go_enter Try.func3, Try.ntmps3
  go_upto_region 1 with fail
  rw [← hwk, ← hN]
  clear hwk hN
  go_upto_region 2 with (go_at_call 8; refine HNW.out.mono ?_; rintro en w2 ⟨p, F, rfl, hA2, hf2, ho2⟩; have HA2 := Lib.hid hA2; have HS2 : Hid (Since W w2 F) := Lib.hid ⟨fun k hk => Nat.le_trans HO1.out.size (hf2 k hk), HO1.out.trans ho2⟩; have HX2 : Hid (Side w2 F N (boxR k)) := Lib.hid ⟨ho2.blk HB1.out (fun h => h), fun h => by have := hf2 _ h; have := blk_lt HB1.out; omega⟩; clear hA2 hf2 ho2)
  have HGR := Lib.hid HA2.out.grain
  rw [← HQ.out] at HGR
  obtain ⟨y0, y1, y2, y3, y4⟩ := HX2.out.cells
  rw [← HKK.out] at y0 y1 y2 y3 y4
  simp only at y0 y1 y2 y3 y4
  go_upto_region 3 with (go_at_call 9; refine HGR.out.mono ?_; rintro en w' ⟨rfl, rfl⟩)
  go_wp2_with fail
  go_at_call 11
  refine (HMI.out _).mono ?_
  rintro en w3 ⟨rfl, ho3⟩
  have hA3 := HA2.out.only ho3 (fun _ _ h => h)
  have HS3 := Lib.hid (HS2.out.pass ho3)
  have HX3 := Lib.hid (HX2.out.pass ho3)
  have HST := Lib.hid (set_a hA3 k HKW.out again (by decide) (by decide))
  rw [setA_nil, HKV.out] at HST
  clear y0 y1 y2 y3 y4 ho3 hA3
  go_wp2_with fail
  go_at_call 10
  refine HST.out.mono ?_
  rintro en w4 ⟨rfl, F4, hA4, hf4, ho4⟩
  have HS4 := Lib.hid (HS3.out.step hf4 ho4)
  have hx4 := HX3.out.step hf4 ho4
  have HX4 := Lib.hid hx4
  have HA4 := Lib.hid hA4
  obtain ⟨y0, y1, y2, y3, y4⟩ := hx4.cells
  rw [← HKK.out] at y0 y1 y2 y3 y4
  simp only at y0 y1 y2 y3 y4
  clear hf4 ho4 hA4 hx4
  go_wp2_with fail
  go_at_call 11
  refine (HMI.out _).mono ?_
  rintro en w5 ⟨rfl, ho5⟩
  have hA5 := HA4.out.only ho5 (fun _ _ h => h)
  have HS5 := Lib.hid (HS4.out.pass ho5)
  have HST2 := Lib.hid (set_a hA5 k HKW.out t (by simp) (by decide))
  rw [setA_same, HKV.out] at HST2
  clear y0 y1 y2 y3 y4 ho5 hA5 HX3 HX4 HX2 HST
  go_wp2_with fail
  go_at_call 10
  refine HST2.out.mono ?_
  rintro en w6 ⟨rfl, F6, hA6, hf6, ho6⟩
  have HS6 := Lib.hid (HS5.out.step hf6 ho6)
  have HA6 := Lib.hid hA6
  have HLN : Hid (Calls Try.prog 12 #[.pointer (some ⟨p, 0, none⟩)] w6 fun e w' => e = .returned (.int .i64 1) ∧ w6 = w') := Lib.hid hA6.len
  clear hf6 ho6 hA6
  have hct := cl_bounds t
  have hcx := cl_bounds ask
  have HCT := Lib.hid (fun w => clampR_p t w)
  have HCX := Lib.hid (fun w => clampR_p ask w)
  have HPA := Lib.hid (fun w => pastR_p HG.out.1 HG.out.2 ask t w)
  have HDU := Lib.hid (due_a HA6.out ask (e := cl ask / pw G) (mx_div (n := 0) HG.out.1 HG.out.2 hcx.1))
  obtain ⟨ct, hct'⟩ : ∃ ct, ct = cl t := ⟨_, rfl⟩
  obtain ⟨cx, hcx'⟩ : ∃ cx, cx = cl ask := ⟨_, rfl⟩
  rw [← hct'] at hct HCT
  rw [← hcx'] at hcx HCX
  rw [← hct', ← hcx'] at HPA
  rw [← hct', ← hcx'] at HDU
  obtain ⟨df1, df2, df3⟩ := due_facts HG.out.1 HG.out.2 hct.1 hcx.1
  have hw : wrap64 (cx - ct) = cx - ct := IntWalk.wrap64_in _ (by omega)
  unfold DueP at HDU
  clear hct' hcx' hct hcx
  have hcs : sl G ct ≤ cx / pw G ∨ ¬ sl G ct ≤ cx / pw G := by omega
  rcases hcs with hd | hd
  · have hlt : ¬ cx < ct := by have := df2 hd; omega
    rw [decide_eq_true (df1.1 hd), ← HQ.out] at HPA
    rw [show dueA G (cx / pw G) [⟨k, ct, 0 + 1 + 1⟩] = [⟨k, ct, 0 + 1 + 1⟩] from List.filter_eq_self.2 (by simpa using hd), show leftA G (cx / pw G) [⟨k, ct, 0 + 1 + 1⟩] = [] from by unfold leftA; simpa using hd, List.map_cons, List.map_nil, sortN_one] at HDU
    clear df1 df2 df3 hd hw
    go_upto_region 6 with (first | (go_at_call 12; refine HLN.out.mono ?_; rintro en w' ⟨rfl, rfl⟩) | (go_at_call 13; refine HDU.out.mono ?_; rintro en w7 ⟨v7, F7, rfl, ht7, hA7, hf7, ho7⟩; obtain ⟨q7, o7, c7, rfl, _⟩ := ht7.one; have HS7 := Lib.hid (HS6.out.step hf7 ho7); have HA7 := Lib.hid hA7; clear ht7 hf7 ho7 hA7))
    have HL7 : Hid (Calls Try.prog 12 #[.pointer (some ⟨p, 0, none⟩)] w7 fun e w' => e = .returned (.int .i64 0) ∧ w7 = w') := Lib.hid HA7.out.len
    go_wp2_with (first
      | (go_at_call 12; refine HL7.out.mono ?_; rintro en w' ⟨rfl, rfl⟩)
      | (go_at_call 14; with_reducible refine (HCT.out _).mono ?_; rintro en w' ⟨rfl, rfl⟩)
      | (go_at_call 14; with_reducible refine (HCX.out _).mono ?_; rintro en w' ⟨rfl, rfl⟩)
      | (go_at_call 15; refine (HPA.out _).mono ?_; rintro en w' ⟨rfl, rfl⟩)
      | (go_at_call 16; refine (awake_p _).mono ?_; rintro en w9 ⟨rfl, ho9⟩; have HO9 := Lib.hid ho9; clear ho9))
    go_ret
    exact ⟨rfl, below_of (HS7.out.on.trans HO9.out)⟩
  · have hge : ¬ q ≤ cx - ct := by have := df3 hd; rw [← HQ.out] at this; omega
    rw [decide_eq_false (fun h => hd (df1.2 h)), ← HQ.out] at HPA
    rw [show dueA G (cx / pw G) [⟨k, ct, 0 + 1 + 1⟩] = [] from by unfold dueA; simpa using hd, show leftA G (cx / pw G) [⟨k, ct, 0 + 1 + 1⟩] = [⟨k, ct, 0 + 1 + 1⟩] from List.filter_eq_self.2 (by simpa using hd), List.map_nil, sortN_nil] at HDU
    clear df1 df2 df3 hd
    go_upto_region 6 with (first | (go_at_call 12; refine HLN.out.mono ?_; rintro en w' ⟨rfl, rfl⟩) | (go_at_call 13; refine HDU.out.mono ?_; rintro en w7 ⟨v7, F7, rfl, ht7, hA7, hf7, ho7⟩; obtain ⟨q7, c7, rfl⟩ := ht7.none_; have HS7 := Lib.hid (HS6.out.step hf7 ho7); have HA7 := Lib.hid hA7; clear ht7 hf7 ho7 hA7))
    have HL7 : Hid (Calls Try.prog 12 #[.pointer (some ⟨p, 0, none⟩)] w7 fun e w' => e = .returned (.int .i64 1) ∧ w7 = w') := Lib.hid HA7.out.len
    go_wp2_with (first
      | (go_at_call 12; refine HL7.out.mono ?_; rintro en w' ⟨rfl, rfl⟩)
      | (go_at_call 14; with_reducible refine (HCT.out _).mono ?_; rintro en w' ⟨rfl, rfl⟩)
      | (go_at_call 14; with_reducible refine (HCX.out _).mono ?_; rintro en w' ⟨rfl, rfl⟩)
      | (go_at_call 15; refine (HPA.out _).mono ?_; rintro en w' ⟨rfl, rfl⟩)
      | (go_at_call 16; refine (awake_p _).mono ?_; rintro en w9 ⟨rfl, ho9⟩; have HO9 := Lib.hid ho9; clear ho9))
    go_ret
    exact ⟨rfl, below_of (HS7.out.on.trans HO9.out)⟩
end Go.Proofs.Ytmkcckkjkfmheaa.Al

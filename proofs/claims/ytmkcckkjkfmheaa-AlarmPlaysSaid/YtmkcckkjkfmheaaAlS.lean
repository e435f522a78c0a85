/- Alarm: Set. -/
import Derived.Test.YtmkcckkjkfmheaaAlD
import Derived.Test.YtmkcckkjkfmheaaAlU
set_option linter.unusedVariables false
set_option linter.unusedSimpArgs false
set_option maxRecDepth 100000
namespace Go.Proofs.Ytmkcckkjkfmheaa.Al
open Go.RowKit Go.Maps Go.Proofs.Ytmkcckkjkfmheaa.Base Go.Proofs.Ytmkcckkjkfmheaa.Rws Go.Proofs.Ytmkcckkjkfmheaa.Wh Go.Proofs.YtmkcckkjkfmheaaW.PrintWords Go.Proofs.YtmkcckkjkfmheaaW.PrintMore
attribute [local go_sem] max2_mx min2_mn max_two min_two max_three min_three max_four min_four

def setA (A : List En) (k : K5) (t h : Int) : List En := A.filter (fun x => decide (x.n ≠ k)) ++ [⟨k, t, h⟩]

/-- What is written into the three maps. -/
theorem MS.puts {w : World} {p gw bh bn bt : Nat} {G : Int} {A : List En} (h : MS w p gw bh bn bt G A) (k : K5) (hk : k.wf) (t h1 : Int) (ht : (Lit.int .i64 t).wf = true) (hh : (Lit.int .i64 h1).wf = true) (hl : A.length < 90000) (h0 : ∀ e ∈ A, e.n ≠ k) (h2 : ∀ e ∈ A, e.h ≠ h1) :
    ∃ (v0 v1 v2 : Value) (s0 s1 s2 : Nat) (a b c d e f : World),
      (Instr.mapEntry 62 (.map (some bh)) k.v).run Try.prog w = .ok (.tuple #[v0, .int .i64 s0]) a ∧ (Instr.entryStore 62 (.map (some bh)) (.int .i64 s0) (.int .i64 h1)).run Try.prog a = .ok () b ∧
      (Instr.mapEntry 63 (.map (some bn)) (.int .i64 h1)).run Try.prog b = .ok (.tuple #[v1, .int .i64 s1]) c ∧ (Instr.entryStore 63 (.map (some bn)) (.int .i64 s1) k.v).run Try.prog c = .ok () d ∧
      (Instr.mapEntry 62 (.map (some bt)) k.v).run Try.prog d = .ok (.tuple #[v2, .int .i64 s2]) e ∧ (Instr.entryStore 62 (.map (some bt)) (.int .i64 s2) (.int .i64 t)).run Try.prog e = .ok () f ∧
      MS f p gw bh bn bt G (A ++ [⟨k, t, h1⟩]) ∧ Only (fun i => i = bh ∨ i = bn ∨ i = bt) w f ∧ (∀ W, W = w ∨ W = a ∨ W = b ∨ W = c ∨ W = d ∨ W = e ∨ W = f → Only (fun i => i = bh ∨ i = bn ∨ i = bt) w W) := by
  obtain ⟨v0, s0, a, b, r1, r2, m1, o1, q1⟩ := h.mh.put (by rw [List.length_map]; omega) k hk h1 hh
  have hn1 := h.mn.only o1 (fun e => h.d.1 e.symm)
  obtain ⟨v1, s1, c, d, r3, r4, m2, o2, q2⟩ := hn1.put (by rw [List.length_map]; omega) h1 hh k
  have ht1 := (h.mt.only o1 (fun e => h.d.2.1 e.symm)).only o2 (fun e => h.d.2.2 e.symm)
  obtain ⟨v2, s2, e, f, r5, r6, m3, o3, q3⟩ := ht1.put (by rw [List.length_map]; omega) k hk t ht
  have hne := h.ne
  have c1 : (A.map En.nh).filter (fun p => decide (p.1 ≠ k)) = A.map En.nh := List.filter_eq_self.2 (fun q hq => by
    obtain ⟨x, hx, rfl⟩ := List.mem_map.1 hq
    exact decide_eq_true (p := x.n ≠ k) (h0 x hx))
  have c2 : (A.map En.hn).filter (fun p => decide (p.1 ≠ h1)) = A.map En.hn := List.filter_eq_self.2 (fun q hq => by
    obtain ⟨x, hx, rfl⟩ := List.mem_map.1 hq
    exact decide_eq_true (p := x.h ≠ h1) (h2 x hx))
  have c3 : (A.map En.nt).filter (fun p => decide (p.1 ≠ k)) = A.map En.nt := List.filter_eq_self.2 (fun q hq => by
    obtain ⟨x, hx, rfl⟩ := List.mem_map.1 hq
    exact decide_eq_true (p := x.n ≠ k) (h0 x hx))
  rw [c1] at m1
  rw [c2] at m2
  rw [c3] at m3
  refine ⟨v0, v1, v2, s0, s1, s2, a, b, c, d, e, f, r1, r2, r3, r4, r5, r6, ⟨((o3.blk (o2.blk (o1.blk h.blk hne.1) hne.2.1) hne.2.2)), ?_, ?_, ?_, h.g, h.d⟩, (o1.mono (fun i h => .inl h)).trans ((o2.mono (fun i h => .inr (.inl h))).trans (o3.mono (fun i h => .inr (.inr h)))), fun W hW => ?_⟩
  · rw [List.map_append]
    exact (m1.only o2 (fun e => h.d.1 e)).only o3 (fun e => h.d.2.1 e)
  · rw [List.map_append]
    exact m2.only o3 (fun e => h.d.2.2 e)
  · rw [List.map_append]
    exact m3
  · have p1 : Only (fun i => i = bh ∨ i = bn ∨ i = bt) w b := o1.mono (fun i h => .inl h)
    have p2 : Only (fun i => i = bh ∨ i = bn ∨ i = bt) w d := p1.trans (o2.mono (fun i h => .inr (.inl h)))
    rcases hW with rfl | rfl | rfl | rfl | rfl | rfl | rfl
    · exact Only.refl _ _
    · exact q1.mono (fun i h => .inl h)
    · exact p1
    · exact p1.trans (q2.mono (fun i h => .inr (.inl h)))
    · exact p2
    · exact p2.trans (q3.mono (fun i h => .inr (.inr h)))
    · exact p2.trans (o3.mono (fun i h => .inr (.inr h)))

theorem AH.wfs {w : World} {p : Nat} {F : Nat → Prop} {G n last : Int} {A : List En} (h : AH w p F G n last A) : (∀ e ∈ A, 1 ≤ e.h ∧ e.h ≤ last) ∧ (A.map En.n).Nodup ∧ (A.map En.h).Nodup ∧ (0 ≤ G ∧ G ≤ 6) ∧ 0 ≤ last ∧ (∀ e ∈ A, e.n.wf) := by
  obtain ⟨gw, bh, bn, bt, FW, hm, hw, hf, hF⟩ := h
  refine ⟨fun e he => (hw.bd _ (List.mem_map.2 ⟨e, he, rfl⟩)).2, hm.nodup.1, hm.nodup.2, hm.g, ?_, fun e he => (hm.wf e he).1⟩
  obtain ⟨_, _, _, _, _, _, _, h4, _⟩ := hw
  exact h4.1

set_option maxHeartbeats 8000000 in
theorem set_a {w : World} {p : Nat} {F : Nat → Prop} {G n last : Int} {A : List En} (h : AH w p F G n last A) (k : K5) (hk : k.wf) (t : Int) (hA : A.length < 4096) (hlast : last < 90000) :
    Calls Try.prog 10 #[.pointer (some ⟨p, 0, none⟩), k.v, .int .i64 t] w fun e w' => e = .returned (.int .i64 0) ∧ ClearPost w p F G n (last + 1) (setA A k (cl t) (last + 1)) w' := by
  have hwfs := h.wfs
  have HWF := Lib.hid hwfs
  have HCL : Hid (∀ W, AH W p F G n last A → Calls Try.prog 23 #[.pointer (some ⟨p, 0, none⟩), k.v] W fun e w' => e = .returned (.bool (handOf A k).2) ∧ ClearPost W p F G n last (A.filter (fun x => decide (x.n ≠ k))) w') := Lib.hid (fun W hW => clear_a hW k hk)
  have HX : Hid (∀ w, Calls Try.prog 26 #[.int .i64 t] w fun e w' => e = .returned (.int .i64 (cl t)) ∧ w = w') := Lib.hid (fun w => clamp_p t w)
  have hy := cl_bounds t
  obtain ⟨y, hyy⟩ : ∃ y, y = cl t := ⟨_, rfl⟩
  rw [← hyy] at hy HX ⊢
  have HY := Lib.hid hy
  have HU : Hid (∀ w, Calls Try.prog 28 #[.int .i64 y, .int .i64 (pw G)] w fun e w' => e = .returned (.int .i64 (sl G y * pw G)) ∧ w' = w) := Lib.hid (fun w => (up_p hwfs.2.2.2.1.1 hwfs.2.2.2.1.2 y hy w).mono fun _ _ h => ⟨h.1, h.2.symm⟩)
  have hsb := sl_bd hwfs.2.2.2.1.1 hwfs.2.2.2.1.2 hy
  have hg0 := hwfs.2.2.2.1.1
  have hg1 := hwfs.2.2.2.1.2
  have hsl : Op.shift .shl .i64 1 .i64 G = pure (.int .i64 (pw G)) := by
    rw [shift_shl_any _ _ _ _ hg0]
    have h : (1 : Int) * 2 ^ min G.toNat IntKind.i64.bits = 2 ^ G.toNat := by
      rw [Int.one_mul, Nat.min_eq_left (by have : IntKind.i64.bits = 64 := rfl; omega)]
    rw [h, IntWalk.i64_left, pw_wrap hg0 hg1]
  have hsr : Op.shift .shr .i64 (sl G y * pw G) .i64 G = pure (.int .i64 (sl G y)) := by
    rw [shift_shr_any _ _ _ _ hg0, Nat.min_eq_left (by have : IntKind.i64.bits = 64 := rfl; omega)]
    have h := hsb.2.2.1
    unfold pw at h
    unfold pw
    rw [h]
  have hpb : 1 ≤ pw G ∧ pw G ≤ 64 := by have := pw_cases hg0 hg1; omega
  obtain ⟨S, hS⟩ : ∃ S, S = sl G y := ⟨_, rfl⟩
  obtain ⟨U, hU⟩ : ∃ U, U = sl G y * pw G := ⟨_, rfl⟩
  obtain ⟨q, hq⟩ : ∃ q, q = pw G := ⟨_, rfl⟩
  rw [← hU] at HU hsb hsr
  rw [← hS, ← hq] at hsb
  rw [← hS] at hsr
  rw [← hq] at HU hsl hpb
  have HS := Lib.hid hS
  have HSB := Lib.hid hsb
  have HH := Lib.hid h
  obtain ⟨gw, bh, bn, bt, FW, hm, hw, hf, hF⟩ := h
  obtain ⟨w1, hw1⟩ : ∃ w1, w1 = w.alloc (boxN k) := ⟨_, rfl⟩
  have ho1 : Only (fun _ => False) w w1 := by rw [hw1]; exact (Only.refl _ w).alloc _
  have hm1 := (hm.only ho1 (fun h => h) (fun h => h) (fun h => h) (fun h => h))
  obtain ⟨N, hN⟩ : ∃ N, N = w.heap.size := ⟨_, rfl⟩
  have hb : w1.heap[N]? = some (boxN k) := by rw [hw1, hN]; exact heap_alloc_new w _
  have hod : Only (fun _ => False) w1 w1.drew := (Only.refl (fun _ => False) w1).drew
  have hmd := hm1.only hod (fun h => h) (fun h => h) (fun h => h) (fun h => h)
  have hl := hmd.look_h k hk
  have hlen : (Builtin.len_ #[62] 3 #[.map (some bh)]).run Try.prog w1.drew = .ok (.int .i64 (A.length : Nat)) w1.drew := by
    have := hmd.mh.len 3
    rwa [List.length_map] at this
  obtain ⟨LA, hLA⟩ : ∃ LA, LA = A.length := ⟨_, rfl⟩
  rw [← hLA] at hlen
  have hLL : (LA : Int) < 4096 := by omega
  have x2 : w1.cell? ⟨p, 2, none⟩ = some (.map (some bh)) := hm1.c2
  have y0 : w1.cell? ⟨N, 0, none⟩ = some (.int .i64 k.a) := cell_at hb 0 rfl
  have y1 : w1.cell? ⟨N, 1, none⟩ = some (.int .i64 k.b) := cell_at hb 1 rfl
  have y2 : w1.cell? ⟨N, 2, none⟩ = some (.int .i64 k.c) := cell_at hb 2 rfl
  have y3 : w1.cell? ⟨N, 3, none⟩ = some (.int .i64 k.d) := cell_at hb 3 rfl
  have y4 : w1.cell? ⟨N, 4, none⟩ = some (.int .i64 k.e) := cell_at hb 4 rfl
  have HM1 := Lib.hid hm1
  have HLA := Lib.hid hLA
  have HHD := Lib.hid ((HH.out.only ho1 (fun _ _ h => h)).only hod (fun _ _ h => h))
  have HNF : Hid (∀ i, F i → i < N) := Lib.hid (fun i hi => by rw [hN]; exact HH.out.flt i hi)
  have HO1 := Lib.hid ho1
  have HBX := Lib.hid hb
  have HNN : Hid (w.heap.size = N) := Lib.hid hN.symm
  have HKW := Lib.hid hk
  have HLT := Lib.hid hlast
  obtain ⟨⟨hx, ok⟩, hok⟩ : ∃ z, z = handOf A k := ⟨_, rfl⟩
  rw [← hok] at hl HCL
  simp only at hl HCL
  have HAL := Lib.hid hA
  obtain ⟨A', hA'⟩ : ∃ A', A' = A.filter (fun x => decide (x.n ≠ k)) := ⟨_, rfl⟩
  have HA1 : Hid (setA A k y (last + 1) = A' ++ [⟨k, y, last + 1⟩]) := Lib.hid (by rw [hA']; rfl)
  have HA2 : Hid (∀ e ∈ A', e.n ≠ k) := Lib.hid (fun e he => by rw [hA'] at he; exact of_decide_eq_true (p := e.n ≠ k) (List.mem_filter.1 he).2)
  have HA3 : Hid (A'.length < 4096) := Lib.hid (by rw [hA']; exact Nat.lt_of_le_of_lt (List.length_filter_le _ _) hA)
  rw [← hA'] at HCL
  rw [HA1.out]
  obtain ⟨a, b', c, d, e⟩ := k
  unfold K5.v at hl HCL ⊢
  unfold boxN at hw1
  simp only at hl y0 y1 y2 y3 y4 hw1 HCL ⊢
  clear hwfs hg0 hg1 hy hyy hm hw hf hF ho1 hm1 hb hod hmd hk hA' hA hlast hLA hok hS hU hq hsb hpb
  go_enter Try.func10, Try.ntmps10
  go_wp2_with fail
  rw [← hw1, ← hN]
  clear hw1 hN
  go_wp2_with (first
    | (go_at_call 25; refine (none_a HM1.out).mono ?_; rintro e w' ⟨rfl, rfl⟩)
    | (go_at_call 26; refine (HX.out _).mono ?_; rintro e w' ⟨rfl, rfl⟩))
  go_region
  cases ok
  all_goals
    go_upto_region 8 with (go_at_call 23; refine (HCL.out _ HHD.out).mono ?_; rintro e w2 ⟨rfl, F2, hA2, hf2, ho2⟩)
    clear hl hlen hLL x2 y0 y1 y2 y3 y4 HCL
    have hwf2 := hA2.wfs
    have HWF2 := Lib.hid hwf2
    obtain ⟨gw2, bh2, bn2, bt2, FW2, hm2, hwh2, hfw2, hFF2⟩ := hA2
    have hb2 : w2.heap[N]? = some (boxN ⟨a, b', c, d, e⟩) := ho2.blk (w := w1.drew) HBX.out (fun h => by have := HNF.out N h; omega)
    have x0 : w2.cell? ⟨p, 0, none⟩ = some (.pointer (some ⟨gw2, 0, none⟩)) := hm2.c0
    have x1 : w2.cell? ⟨p, 1, none⟩ = some (.int .i64 G) := hm2.c1
    have HM2 := Lib.hid hm2
    have HFW2 := Lib.hid hfw2
    have HFF2 := Lib.hid hFF2
    have HF2 := Lib.hid hf2
    have HO2 := Lib.hid ho2
    have HB2 := Lib.hid hb2
    have HNW : Hid (¬ F2 N) := Lib.hid (fun h => (hf2 N h).elim (fun h => absurd (HNF.out N h) (Nat.lt_irrefl _)) (fun h => absurd (blk_lt HBX.out) (Nat.not_lt.2 h)))
    have HAD := Lib.hid (wh_add S (hwh2.only ((Only.refl (fun _ => False) w2).drew) (fun _ _ h => h)) (by rw [List.length_map]; exact HA3.out) (by have := HLT.out; omega))
    clear hwf2 hm2 hwh2 hfw2 hFF2 hf2 ho2 hb2
    go_region_held3 (fun w' => w'.cell? ⟨p, 0, none⟩ = some (.pointer (some ⟨gw2, 0, none⟩)) ∧ w'.cell? ⟨p, 1, none⟩ = some (.int .i64 G)) (first | exact ⟨x0, x1⟩ | exact ⟨x0', x1'⟩) (first | (go_at_call 28; refine (HU.out _).mono ?_; rintro e w' ⟨rfl, rfl⟩) | (go_at_call 27; refine HAD.out.mono ?_; rintro e w3 ⟨rfl, FW3, hw3, hf3, ho3⟩; have hm3 := HM2.out.only (w' := w3) (S := FW2) (by exact (Only.refl FW2 w2).drew.trans ho3) HFW2.out.1 HFW2.out.2.1 HFW2.out.2.2.1 HFW2.out.2.2.2; have x0' : w3.cell? ⟨p, 0, none⟩ = some (.pointer (some ⟨gw2, 0, none⟩)) := hm3.c0; have x1' : w3.cell? ⟨p, 1, none⟩ = some (.int .i64 G) := hm3.c1; have HM3 := Lib.hid hm3; have HW3 := Lib.hid hw3; have HF3 := Lib.hid hf3; have HO3 := Lib.hid ho3; clear hm3 hw3 hf3 ho3))
    have hLT := HLT.out
    have hWF2 := HWF2.out
    have hA3 := HA3.out
    have hY := HY.out
    obtain ⟨v0, v1, v2, s0, s1, s2, wa, wb, wc, wd, we, wf, r1, r2, r3, r4, r5, r6, hmf, hof, hall⟩ := (HM3.out.only ((Only.refl (fun _ => False) w3).drew) (fun h => h) (fun h => h) (fun h => h) (fun h => h)).puts ⟨a, b', c, d, e⟩ HKW.out y (last + 1) (wf64 (by omega) (by omega)) (wf64 (by omega) (by omega)) (by omega) HA2.out (fun x hx e => by have := hWF2.1 x hx; omega)
    unfold K5.v at r1 r4 r5
    simp only at r1 r4 r5
    have hb3 : w3.heap[N]? = some (boxN ⟨a, b', c, d, e⟩) := HO3.out.blk (w := w2.drew) HB2.out (fun h => HNW.out ((HFF2.out N).2 (.inr (.inr (.inr (.inr h))))))
    have hne3 := HM3.out.ne
    have hN3 : N ≠ bh2 ∧ N ≠ bn2 ∧ N ≠ bt2 := ⟨fun e => HNW.out ((HFF2.out N).2 (.inr (.inl e))), fun e => HNW.out ((HFF2.out N).2 (.inr (.inr (.inl e)))), fun e => HNW.out ((HFF2.out N).2 (.inr (.inr (.inr (.inl e)))))⟩
    have keep : ∀ W, Only (fun i => i = bh2 ∨ i = bn2 ∨ i = bt2) w3.drew W → W.cell? ⟨p, 2, none⟩ = some (.map (some bh2)) ∧ W.cell? ⟨p, 3, none⟩ = some (.map (some bn2)) ∧ W.cell? ⟨p, 4, none⟩ = some (.map (some bt2)) ∧ W.cell? ⟨N, 0, none⟩ = some (.int .i64 a) ∧ W.cell? ⟨N, 1, none⟩ = some (.int .i64 b') ∧ W.cell? ⟨N, 2, none⟩ = some (.int .i64 c) ∧ W.cell? ⟨N, 3, none⟩ = some (.int .i64 d) ∧ W.cell? ⟨N, 4, none⟩ = some (.int .i64 e) := fun W hW => by
      have hp := hW.blk (w := w3.drew) HM3.out.blk (fun h => h.elim hne3.1 (fun h => h.elim hne3.2.1 hne3.2.2))
      have hn := hW.blk (w := w3.drew) hb3 (fun h => h.elim hN3.1 (fun h => h.elim hN3.2.1 hN3.2.2))
      exact ⟨cell_at hp 2 rfl, cell_at hp 3 rfl, cell_at hp 4 rfl, cell_at hn 0 rfl, cell_at hn 1 rfl, cell_at hn 2 rfl, cell_at hn 3 rfl, cell_at hn 4 rfl⟩
    have k0 := keep w3.drew (hall _ (.inl rfl))
    have k1 := keep wa (hall _ (.inr (.inl rfl)))
    have k2 := keep wb (hall _ (.inr (.inr (.inl rfl))))
    have k3 := keep wc (hall _ (.inr (.inr (.inr (.inl rfl)))))
    have k4 := keep wd (hall _ (.inr (.inr (.inr (.inr (.inl rfl))))))
    have k5 := keep we (hall _ (.inr (.inr (.inr (.inr (.inr (.inl rfl)))))))
    have k6 := keep wf (hall _ (.inr (.inr (.inr (.inr (.inr (.inr rfl)))))))
    have HMF := Lib.hid hmf
    have HOF := Lib.hid hof
    clear hmf hof hb3 hLT hWF2 hA3 hY keep hall hne3 hN3 x0 x1 x0' x1' hsl hsr
    go_upto_region 11 with fail
    go_region_held3 (fun W => W.cell? ⟨p, 2, none⟩ = some (.map (some bh2)) ∧ W.cell? ⟨p, 3, none⟩ = some (.map (some bn2)) ∧ W.cell? ⟨p, 4, none⟩ = some (.map (some bt2)) ∧ W.cell? ⟨N, 0, none⟩ = some (.int .i64 a) ∧ W.cell? ⟨N, 1, none⟩ = some (.int .i64 b') ∧ W.cell? ⟨N, 2, none⟩ = some (.int .i64 c) ∧ W.cell? ⟨N, 3, none⟩ = some (.int .i64 d) ∧ W.cell? ⟨N, 4, none⟩ = some (.int .i64 e)) (first | exact k0 | exact k1 | exact k2 | exact k3 | exact k4 | exact k5 | exact k6) (fail)
    go_wp2
    go_ret
    have hsz : N ≤ w1.heap.size := by rw [← HNN.out]; exact HO1.out.size
    have hsz2 : w1.heap.size ≤ w2.heap.size := HO2.out.size
    have hfr2 : ∀ i, F2 i → F i ∨ N ≤ i := fun i hi => (HF2.out i hi).imp id (fun h => Nat.le_trans hsz h)
    have hfr3 : ∀ i, FW3 i → FW2 i ∨ w2.heap.size ≤ i := HF3.out
    have hF2 := HFF2.out
    have hin : ∀ i, i < w2.heap.size → ¬ FW2 i → ¬ FW3 i := fun i h1 h2 h3 => (hfr3 i h3).elim h2 (fun h => by omega)
    have hw3F : ∀ i, FW3 i → F i ∨ N ≤ i := fun i hi => (hfr3 i hi).elim (fun h => hfr2 i ((hF2 i).2 (.inr (.inr (.inr (.inr h)))))) (fun h => .inr (by omega))
    have hn0 := hin _ (blk_lt HM2.out.blk) HFW2.out.1
    have hn1 := hin _ HM2.out.mh.lt HFW2.out.2.1
    have hn2 := hin _ HM2.out.mn.lt HFW2.out.2.2.1
    have hn3 := hin _ HM2.out.mt.lt HFW2.out.2.2.2
    refine ⟨rfl, fun i => i = p ∨ i = bh2 ∨ i = bn2 ∨ i = bt2 ∨ FW3 i, ⟨gw2, bh2, bn2, bt2, FW3, HMF.out, ?_, ⟨hn0, hn1, hn2, hn3⟩, fun i => Iff.rfl⟩, fun i hi => ?_, ?_⟩
    · have hcl : cl S = sl G y := by rw [cl_same S HSB.out.1 HSB.out.2.1]; exact HS.out
      have hw := HW3.out
      rw [hcl] at hw
      rw [List.map_append]
      refine WH.only (w := w3.drew) (S := fun i => i = bh2 ∨ i = bn2 ∨ i = bt2) (by exact hw.only (Only.refl (fun _ => False) w3).drew (fun _ _ h => h)) HOF.out (fun i hi h => ?_)
      rcases h with rfl | rfl | rfl
      · exact hn1 hi
      · exact hn2 hi
      · exact hn3 hi
    · rw [HNN.out]
      rcases hi with h | h | h | h | h
      · exact hfr2 i ((hF2 i).2 (.inl h))
      · exact hfr2 i ((hF2 i).2 (.inr (.inl h)))
      · exact hfr2 i ((hF2 i).2 (.inr (.inr (.inl h))))
      · exact hfr2 i ((hF2 i).2 (.inr (.inr (.inr (.inl h)))))
      · exact hw3F i h
    · have g1 : Only F w w2 := (HO1.out.mono (fun _ h => h.elim)).trans (Only.trans (w1 := w1.drew) (Only.refl F w1).drew HO2.out)
      have g2 : Only F w w3 := (g1.drew).then_ HO3.out (fun i hi => by rw [HNN.out]; exact hfr2 i ((hF2 i).2 (.inr (.inr (.inr (.inr hi))))))
      refine (g2.drew).then_ HOF.out (fun i hi => ?_)
      rw [HNN.out]
      rcases hi with h | h | h
      · exact hfr2 i ((hF2 i).2 (.inr (.inl h)))
      · exact hfr2 i ((hF2 i).2 (.inr (.inr (.inl h))))
      · exact hfr2 i ((hF2 i).2 (.inr (.inr (.inr (.inl h)))))
end Go.Proofs.Ytmkcckkjkfmheaa.Al

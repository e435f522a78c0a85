/- Hedge: send. -/
import Derived.Test.YtpkmpbocgbmliaaHdS
set_option linter.unusedVariables false
set_option linter.unusedSimpArgs false
namespace Go.Proofs.Ytpkmpbocgbmliaa.Hd
open Go.RowKit Go.Proofs.Ytpkmpbocgbmliaa.Base Go.Proofs.Ytpkmpbocgbmliaa.Rws Go.Proofs.Ytpkmpbocgbmliaa.PHedgePlays Go.Proofs.YtpkmpbocgbmliaaW.PrintWords Go.Proofs.YtpkmpbocgbmliaaW.PrintMore
attribute [local go_sem] max2_mx min2_mn max_two min_two max_three min_three max_four min_four

theorem info51 : (Try.prog.info? 51).map (fun i => (i.zero, i.size, i.bytes)) = some (some (.agg #[.int .i64 0, .int .i64 0, .int .i64 0]), 3, 24) := by kernel_rfl

def Ds (w : World) (P : Nat → Prop) (v : Value) (L : List Due) : Prop := Row 3 51 w P v L.length (L.flatMap encD)

theorem Ds.app {W : World} {P : Nat → Prop} {v : Value} {L : List Due} (h : Ds W P v L) (hP : ∀ k, W.heap.size ≤ k → P k) (hl : L.length ≤ 2000) (x : Due) (ty : TypeId) :
    ∃ v1 w1, (Builtin.append_ #[38, 38] ty #[v, .slice (some ⟨W.heap.size, 0, none⟩) 1 1]).run Try.prog (W.alloc (.cells #[.int .i64 x.t, .int .i64 x.who, .int .i64 x.code] 51)) = .ok v1 w1 ∧ Ds w1 P v1 (L ++ [x]) ∧ Only (fun k => v.ownBlock = some k) W w1 := by
  have hO : Only (fun k => v.ownBlock = some k) W (W.alloc (.cells #[.int .i64 x.t, .int .i64 x.who, .int .i64 x.code] 51)) := (Only.refl _ W).alloc _
  have hnew := heap_alloc_new W (.cells #[.int .i64 x.t, .int .i64 x.who, .int .i64 x.code] 51)
  have hrow : Row 3 51 (W.alloc (.cells #[.int .i64 x.t, .int .i64 x.who, .int .i64 x.code] 51)) P v L.length (L.flatMap encD) := Row.keep h (fun g _ hg => heap_alloc_old W _ hg)
  have hsz : (W.alloc (.cells #[.int .i64 x.t, .int .i64 x.who, .int .i64 x.code] 51)).heap.size = W.heap.size + 1 := by show (W.heap.push _).size = _; simp
  generalize W.alloc (.cells #[.int .i64 x.t, .int .i64 x.who, .int .i64 x.code] 51) = W1 at *
  obtain ⟨v1, w1, hr, hR, ho⟩ := Row.app (ty := ty) hrow Try.underlying38 info51 (by rfl) (fun k hk => hP k (by omega)) ⟨W.heap.size, 0, none⟩ 1 1 (encD x) (by simp [encD]) (fun i u hu => by
    rw [Addr.add_lit, Nat.zero_add]
    refine cell_at hnew i ?_
    simpa [encD] using hu) (by simp [encD, Value.oneCell']) (by omega) (by omega) (by omega)
  refine ⟨v1, w1, hr, ?_, hO.trans ho⟩
  unfold Ds
  rw [List.length_append, List.length_singleton, List.flatMap_append]
  simpa using hR

theorem Ds.ne {w : World} {P : Nat → Prop} {v : Value} {L : List Due} (h : Ds w P v L) {g : Nat} {cs : Array Value} {t : TypeId} (hg : w.heap[g]? = some (.cells cs t (0, 0))) (ht : t ≠ 51 := by decide) : ¬ v.ownBlock = some g := Row.ne h hg ht


set_option maxHeartbeats 4000000 in
set_option maxRecDepth 100000 in
theorem send_a {w0 w : World} {g : Nat} {K : Kst} {A : Option Addr} {c : Nat} {σ : St} {v : Value} (h : Gm w0 w g K A c σ v) (s : Int) (hs : s = σ.sent + 1) (hb : 1 ≤ s ∧ s ≤ 5) (hl : σ.out.length ≤ 5) (at' : Int) (hc : s ≤ K.l.length ∧ 0 ≤ (rd_T36 K.l (s - 1)).f0) :
    Calls Try.prog 16 #[.pointer (some ⟨g, 0, none⟩), .int .i64 at'] w fun e w' => e = .returned (.tuple #[]) ∧ ∃ v', Gm w0 w' g K A c ⟨s, addT at' K.delay, σ.out ++ [⟨addT at' (rd_T36 K.l (s - 1)).f0, s, clean (rd_T36 K.l (s - 1)).f1⟩]⟩ v' ∧ Only (fun k => k = g ∨ v.ownBlock = some k) w w' := by
  obtain ⟨V, vc, rfl, _⟩ := h.row.form
  obtain ⟨m, hm⟩ : ∃ m, m = σ.out.length := ⟨_, rfl⟩
  obtain ⟨n, hn⟩ : ∃ n, n = K.l.length := ⟨_, rfl⟩
  obtain ⟨nx, hnx⟩ : ∃ nx, nx = addT at' K.delay := ⟨_, rfl⟩
  rw [← hnx]
  have HM := Lib.hid hm
  have HN := Lib.hid hn
  have HNX := Lib.hid hnx
  have HG := Lib.hid h
  have HBE := Lib.hid h.bel
  have hblk := h.blk
  rw [← hm, ← hn] at hblk
  have hd4 : w.cell? ⟨g, 4, none⟩ = some (.int .i64 σ.sent) := cell_at hblk 4 rfl
  have hf4 : w.frozen? ⟨g, 4, none⟩ = false := blk_frozen hblk 4
  have hblk1 : (w.setCell ⟨g, 4, none⟩ (.int .i64 s)).heap[g]? = some (.cells #[.int .i64 K.most, .int .i64 K.delay, .int .i64 K.dl, .slice A n c, .int .i64 s, .int .i64 σ.next, .slice V m vc] 40 (0, 0)) := blk_set hblk 4 _
  have he1 : (w.setCell ⟨g, 4, none⟩ (.int .i64 s)).cell? ⟨g, 1, none⟩ = some (.int .i64 K.delay) := cell_at hblk1 1 rfl
  have he5 : (w.setCell ⟨g, 4, none⟩ (.int .i64 s)).cell? ⟨g, 5, none⟩ = some (.int .i64 σ.next) := cell_at hblk1 5 rfl
  have hf5 : (w.setCell ⟨g, 4, none⟩ (.int .i64 s)).frozen? ⟨g, 5, none⟩ = false := blk_frozen hblk1 5
  have hblk2 : ((w.setCell ⟨g, 4, none⟩ (.int .i64 s)).setCell ⟨g, 5, none⟩ (.int .i64 nx)).heap[g]? = some (.cells #[.int .i64 K.most, .int .i64 K.delay, .int .i64 K.dl, .slice A n c, .int .i64 s, .int .i64 nx, .slice V m vc] 40 (0, 0)) := blk_set hblk1 5 _
  have hg4 : ((w.setCell ⟨g, 4, none⟩ (.int .i64 s)).setCell ⟨g, 5, none⟩ (.int .i64 nx)).cell? ⟨g, 4, none⟩ = some (.int .i64 s) := cell_at hblk2 4 rfl
  have hO2 : Only (fun k => k = g) w ((w.setCell ⟨g, 4, none⟩ (.int .i64 s)).setCell ⟨g, 5, none⟩ (.int .i64 nx)) := ((Only.refl (fun k => k = g) w).setCell (p := ⟨g, 4, none⟩) (.inl rfl) _).setCell (p := ⟨g, 5, none⟩) (.inl rfl) _
  have hr2 : Row 3 51 ((w.setCell ⟨g, 4, none⟩ (.int .i64 s)).setCell ⟨g, 5, none⟩ (.int .i64 nx)) (fun k => w0.heap.size ≤ k) (.slice V m vc) m (σ.out.flatMap encD) := by
    rw [hm]
    exact h.row.only hO2 (fun i hi e => h.row.ne h.blk (by decide) (by rw [hi, e]))
  have hO3 := hO2.alloc (.cells #[.int .i64 1125899906842624, .int .i64 s, .int .i64 0] 51)
  have HO3 := Lib.hid hO3
  have HB3 := Lib.hid (((Only.refl (fun _ => False) ((w.setCell ⟨g, 4, none⟩ (.int .i64 s)).setCell ⟨g, 5, none⟩ (.int .i64 nx))).alloc (.cells #[.int .i64 1125899906842624, .int .i64 s, .int .i64 0] 51)).blk hblk2 (fun h => h))
  have HR3 := Lib.hid (hr2.only ((Only.refl (fun _ => False) ((w.setCell ⟨g, 4, none⟩ (.int .i64 s)).setCell ⟨g, 5, none⟩ (.int .i64 nx))).alloc (.cells #[.int .i64 1125899906842624, .int .i64 s, .int .i64 0] 51)) (fun _ _ h => h))
  have HK3 := Lib.hid (heap_alloc_new ((w.setCell ⟨g, 4, none⟩ (.int .i64 s)).setCell ⟨g, 5, none⟩ (.int .i64 nx)) (.cells #[.int .i64 1125899906842624, .int .i64 s, .int .i64 0] 51))
  have hsz2 : ((w.setCell ⟨g, 4, none⟩ (.int .i64 s)).setCell ⟨g, 5, none⟩ (.int .i64 nx)).heap.size = w.heap.size := by simp [World.setCell]
  rw [hsz2] at HK3
  have hw1 : wrap64 (σ.sent + 1) = s := by unfold wrap64; omega
  obtain ⟨j, hj⟩ : ∃ j, j = s - 1 := ⟨_, rfl⟩
  have hw2 : wrap64 (s - 1) = j := by unfold wrap64; omega
  have hw3 : IntKind.i64.wrap (s - 1) = j := by rw [IntKind.wrap_i64]; omega
  have hj0 : 0 ≤ j := by omega
  have hjs : j < s := by omega
  try rw [← hj] at hc
  try rw [← hj]
  have HAN := Lib.hid h.ans
  have hgw : w0.heap.size ≤ g := h.ge
  rw [← hn] at hc
  have HS := Lib.hid hs
  have HBD := Lib.hid hb
  clear hr2 hO2 hO3 hblk hblk1 hblk2 h hn hm hnx hj hs hb
  obtain ⟨hc1, hc2⟩ := hc
  have hjn : j < (n : Int) := by omega
  rw [← HN.out] at HAN
  obtain ⟨ad, rfl, ha0, ha1⟩ := at_T36 HAN.out j hj0 hjn
  generalize rd_T36 K.l j = x at *
  obtain ⟨X, hX⟩ : ∃ X, X = addT at' x.f0 := ⟨_, rfl⟩
  obtain ⟨Y, hY⟩ : ∃ Y, Y = clean x.f1 := ⟨_, rfl⟩
  rw [← hX, ← hY]
  have HAD : Hid (∀ w1, Calls Try.prog 22 #[.int .i64 at', .int .i64 x.f0] w1 fun e w' => e = .returned (.int .i64 X) ∧ w1 = w') := Lib.hid (fun w1 => by rw [hX]; exact add_p _ _ _)
  have HCL : Hid (∀ w1, Calls Try.prog 23 #[.int .i64 x.f1] w1 fun e w' => e = .returned (.int .i64 Y) ∧ Only (fun _ => False) w1 w') := Lib.hid (fun w1 => by rw [hY]; exact clean_p _ _)
  clear hX hY
  have HL2 : Hid (σ.out.length ≤ 2000) := Lib.hid (by omega)
  have HP : Hid (w.heap.size ≤ w.heap.size ∧ g < w.heap.size) := Lib.hid ⟨Nat.le_refl _, blk_lt HG.out.blk⟩
  go_enter Try.func16, Try.ntmps16
  go_wp2_with (go_at_call 22; refine (add_p _ _ _).mono ?_; rintro e w' ⟨rfl, rfl⟩; rw [← HNX.out])
  clear hd4 hf4 he1 he5 hf5 hg4 hsz2 hw1
  generalize ((w.setCell ⟨g, 4, none⟩ (.int .i64 s)).setCell ⟨g, 5, none⟩ (.int .i64 nx)).alloc (.cells #[.int .i64 1125899906842624, .int .i64 s, .int .i64 0] 51) = w3 at *
  obtain ⟨p, hp⟩ : ∃ p, p = w.heap.size := ⟨_, rfl⟩
  rw [← hp] at HK3 HP ⊢
  have HPW := Lib.hid hp
  have hpg : g < p := HP.out.2
  clear hp HP
  have hk4 : w3.cell? ⟨g, 4, none⟩ = some (.int .i64 s) := cell_at HB3.out 4 rfl
  have hk3 : w3.cell? ⟨g, 3, none⟩ = some (.slice (some ad) n c) := cell_at HB3.out 3 rfl
  have HB3W : Hid (Below w0.heap.size w0 w3) := Lib.hid (HO3.out.below HBE.out HBE.out.size (fun k hk => by have := HG.out.ge; omega))
  have hx0 := (HB3W.out.cell (World.block_lt_of_cell? w0 _ ha0)).trans ha0
  have hx1 := (HB3W.out.cell (World.block_lt_of_cell? w0 _ ha1)).trans ha1
  go_wp2
  go_quiet (fail)
  go_wp2
  clear hk4 hk3
  obtain ⟨w4, hw4⟩ : ∃ w4, w4 = w3.drewN nq := ⟨_, rfl⟩
  have HK4 : Hid (w4.heap[p]? = some (.cells #[.int .i64 1125899906842624, .int .i64 s, .int .i64 0] 51 (0, 0))) := by rw [hw4]; exact HK3
  have HO4 : Hid (Only (fun k => k = g) w w4) := by rw [hw4]; exact Lib.hid (HO3.out.drewN _)
  have HB4 : Hid (w4.heap[g]? = some (.cells #[.int .i64 K.most, .int .i64 K.delay, .int .i64 K.dl, .slice (some ad) n c, .int .i64 s, .int .i64 nx, .slice V m vc] 40 (0, 0))) := by rw [hw4]; exact HB3
  have HR4 : Hid (Row 3 51 w4 (fun k => w0.heap.size ≤ k) (.slice V m vc) m (σ.out.flatMap encD)) := by rw [hw4]; exact HR3
  have hx04 : w4.cell? (ad.add (j.toNat * 2)) = some (.int .i64 x.f0) := by rw [hw4]; exact hx0
  have hx14 : w4.cell? ⟨(ad.add (j.toNat * 2)).block, (ad.add (j.toNat * 2)).off + 1, none⟩ = some (.int .i64 x.f1) := by rw [hw4]; exact hx1
  rw [← hw4]
  clear hw4 hx0 hx1
  have hap : (ad.add (j.toNat * 2)).block < p := by have h1 := World.block_lt_of_cell? w0 _ ha0; have h2 := HBE.out.size; have h3 := HPW.out; omega
  have HFA : Hid (∀ w', Only (fun k => k = p) w4 w' → w'.cell? ⟨g, 4, none⟩ = some (.int .i64 s) ∧ w'.cell? ⟨g, 3, none⟩ = some (.slice (some ad) n c) ∧ w'.cell? (ad.add (j.toNat * 2)) = some (.int .i64 x.f0) ∧ w'.cell? ⟨(ad.add (j.toNat * 2)).block, (ad.add (j.toNat * 2)).off + 1, none⟩ = some (.int .i64 x.f1)) := Lib.hid (fun w' ho => ⟨cell_at (ho.blk HB4.out (by omega)) 4 rfl, cell_at (ho.blk HB4.out (by omega)) 3 rfl, ho.cell hx04 (by omega), ho.cell hx14 (by show ¬ (ad.add (j.toNat * 2)).block = p; omega)⟩)
  have HRA : Hid (∀ w', Only (fun k => k = p) w4 w' → Row 3 51 w' (fun k => w0.heap.size ≤ k) (.slice V m vc) m (σ.out.flatMap encD)) := Lib.hid (fun w' ho => HR4.out.only ho (fun k hk e => by
    have h1 := (Row.own (by have := HG.out.row; rw [← HM.out] at this; exact this) hk).2
    have h2 := HPW.out
    omega))
  have hz0 : w4.cell? ⟨p, 0, none⟩ = some (.int .i64 1125899906842624) := cell_at HK4.out 0 rfl
  have hz2 : w4.cell? ⟨p, 2, none⟩ = some (.int .i64 0) := cell_at HK4.out 2 rfl
  have hf0 : w4.frozen? ⟨p, 0, none⟩ = false := blk_frozen HK4.out 0
  have hf2 : w4.frozen? ⟨p, 2, none⟩ = false := blk_frozen HK4.out 2
  have HKA : Hid ((w4.drew.setCell ⟨p, 0, none⟩ (.int .i64 X)).heap[p]? = some (.cells #[.int .i64 X, .int .i64 s, .int .i64 0] 51 (0, 0))) := Lib.hid (blk_set (w := w4.drew) HK4.out 0 _)
  have HOA : Hid (Only (fun k => k = p) w4 (w4.drew.setCell ⟨p, 0, none⟩ (.int .i64 X))) := Lib.hid ((Only.refl (fun k => k = p) w4).drew.setCell (p := ⟨p, 0, none⟩) (.inl rfl) _)
  have HOD : Hid (Only (fun k => k = p) w4 w4.drew) := Lib.hid ((Only.refl _ w4).drew)
  go_region_held3 (fun w' => w'.cell? ⟨g, 4, none⟩ = some (.int .i64 s) ∧ w'.cell? ⟨g, 3, none⟩ = some (.slice (some ad) n c) ∧ w'.cell? (ad.add (j.toNat * 2)) = some (.int .i64 x.f0) ∧ w'.cell? ⟨(ad.add (j.toNat * 2)).block, (ad.add (j.toNat * 2)).off + 1, none⟩ = some (.int .i64 x.f1)) (first | exact HFA.out _ (Only.refl _ _) | exact HFA.out _ HOD.out | exact HFA.out _ HOA.out | exact HFA.out _ HO5.out | exact HFA.out _ (HO5.out.setCell (.inl rfl) _) | exact HFA.out _ ((HO5.out.setCell (.inl rfl) _).setCell (.inl rfl) _)) (first | (go_at_call 22; refine (HAD.out _).mono ?_; rintro e w' ⟨rfl, rfl⟩) | (go_at_call 23; refine (HCL.out _).mono ?_; rintro e w5 ⟨rfl, ho5⟩; first | (have HK5 := Lib.hid (ho5.blk HKA.out (fun h => h)); have HO5 := Lib.hid (HOA.out.trans (ho5.mono (fun _ h => h.elim))); have hq2 := cell_at HK5.out 2 rfl; have hq2f := blk_frozen HK5.out 2; clear ho5) | (have HK5 := Lib.hid (ho5.blk (w := w4.drew) HK4.out (fun h => h)); have HO5 := Lib.hid (HOD.out.trans (ho5.mono (fun _ h => h.elim))); have hq0 := cell_at HK5.out 0 rfl; have hq0f := blk_frozen HK5.out 0; have hq2 := cell_at HK5.out 2 rfl; have hq2f := blk_frozen HK5.out 2; have hk6 := blk_set HK5.out 0 (.int .i64 X); have hk7 := blk_set HK5.out 2 (.int .i64 Y); have hq6 := cell_at hk6 2 rfl; have hq6f := blk_frozen hk6 2; have hq7 := cell_at hk7 0 rfl; have hq7f := blk_frozen hk7 0; clear ho5 hk6 hk7)))
  go_wp2
  have HO6 : Hid (Only (fun k => k = p) w4 ((w5.setCell ⟨p, 0, none⟩ (.int .i64 X)).setCell ⟨p, 2, none⟩ (.int .i64 Y))) := Lib.hid ((HO5.out.setCell (p := ⟨p, 0, none⟩) (.inl rfl) _).setCell (p := ⟨p, 2, none⟩) (.inl rfl) _)
  have HK9 : Hid (((w5.setCell ⟨p, 0, none⟩ (.int .i64 X)).setCell ⟨p, 2, none⟩ (.int .i64 Y)).heap[p]? = some (.cells #[.int .i64 X, .int .i64 s, .int .i64 Y] 51 (0, 0))) := Lib.hid (blk_set (blk_set HK5.out 0 _) 2 _)
  have HO9 : Hid (Only (fun k => k = g) w ((w5.setCell ⟨p, 0, none⟩ (.int .i64 X)).setCell ⟨p, 2, none⟩ (.int .i64 Y))) := Lib.hid (HO4.out.then_ HO6.out (fun i hi => .inr (by have := HPW.out; omega)))
  have HB9 := Lib.hid (HO6.out.blk HB4.out (by omega))
  have HR9 := Lib.hid (HRA.out _ HO6.out)
  clear hq2 hq2f
  (try clear hq0 hq0f hq6 hq6f hq7 hq7f)
  clear hz0 hz2 hf0 hf2 HO6
  generalize (w5.setCell ⟨p, 0, none⟩ (.int .i64 X)).setCell ⟨p, 2, none⟩ (.int .i64 Y) = w9 at *

  have hP9 : w0.heap.size ≤ w9.heap.size := by have h1 := HO9.out.size; have h2 := HBE.out.size; omega
  have hx0 : w9.cell? ⟨g, 6, none⟩ = some (.slice V m vc) := cell_at HB9.out 6 rfl
  have hy0 : w9.cell? ⟨p, 0, none⟩ = some (.int .i64 X) := cell_at HK9.out 0 rfl
  have hy1 : w9.cell? ⟨p, 1, none⟩ = some (.int .i64 s) := cell_at HK9.out 1 rfl
  have hy2 : w9.cell? ⟨p, 2, none⟩ = some (.int .i64 Y) := cell_at HK9.out 2 rfl
  have hDs : Ds w9.drew (fun k => w0.heap.size ≤ k) (.slice V m vc) σ.out := by unfold Ds; rw [← HM.out]; exact HR9.out
  obtain ⟨v2, w2, hr2, hI2, hO2⟩ := Ds.app (W := w9.drew) hDs (fun k hk => by have h3 : w9.heap.size ≤ k := hk; omega) HL2.out ⟨X, s, Y⟩ 38
  have hr2' : (Builtin.append_ #[38, 38] 38 #[.slice V m vc, .slice (some ⟨w9.heap.size, 0, none⟩) 1 1]).run Try.prog (w9.alloc (.cells #[.int .i64 X, .int .i64 s, .int .i64 Y] 51)).drew = .ok v2 w2 := hr2
  have hOA : Only (fun _ => False) w9 (w9.alloc (.cells #[.int .i64 X, .int .i64 s, .int .i64 Y] 51)).drew := ((Only.refl _ w9).alloc _).drew
  have hB2 : w2.heap[g]? = some (.cells #[.int .i64 K.most, .int .i64 K.delay, .int .i64 K.dl, .slice (some ad) n c, .int .i64 s, .int .i64 nx, .slice V m vc] 40 (0, 0)) := hO2.blk (w := w9.drew) HB9.out (Ds.ne hDs HB9.out)
  have hxa : (w9.alloc (.cells #[.int .i64 X, .int .i64 s, .int .i64 Y] 51)).drew.cell? ⟨g, 6, none⟩ = some (.slice V m vc) := cell_at (hOA.blk HB9.out (fun h => h)) 6 rfl
  have hya0 : (w9.alloc (.cells #[.int .i64 X, .int .i64 s, .int .i64 Y] 51)).drew.cell? ⟨p, 0, none⟩ = some (.int .i64 X) := cell_at (hOA.blk HK9.out (fun h => h)) 0 rfl
  have hya1 : (w9.alloc (.cells #[.int .i64 X, .int .i64 s, .int .i64 Y] 51)).drew.cell? ⟨p, 1, none⟩ = some (.int .i64 s) := cell_at (hOA.blk HK9.out (fun h => h)) 1 rfl
  have hya2 : (w9.alloc (.cells #[.int .i64 X, .int .i64 s, .int .i64 Y] 51)).drew.cell? ⟨p, 2, none⟩ = some (.int .i64 Y) := cell_at (hOA.blk HK9.out (fun h => h)) 2 rfl
  have hxb : w2.cell? ⟨g, 6, none⟩ = some (.slice V m vc) := cell_at hB2 6 rfl
  have hfb : w2.frozen? ⟨g, 6, none⟩ = false := blk_frozen hB2 6
  have HI6 := Lib.hid hI2
  have HO6 := Lib.hid hO2
  have HB6 := Lib.hid hB2
  clear hr2 hI2 hO2 hOA hB2 hDs
  obtain ⟨A2, c2, e2, _⟩ := HI6.out.form
  subst e2
  have HG7 : Hid (∃ v', Gm w0 (w2.setCell ⟨g, 6, none⟩ (.slice A2 (σ.out ++ [(⟨X, s, Y⟩ : Due)]).length c2)) g K (some ad) c ⟨s, nx, σ.out ++ [(⟨X, s, Y⟩ : Due)]⟩ v' ∧ Only (fun k => k = g ∨ (Value.slice V m vc).ownBlock = some k) w (w2.setCell ⟨g, 6, none⟩ (.slice A2 (σ.out ++ [(⟨X, s, Y⟩ : Due)]).length c2))) := by
    have hoS : Only (fun q => q = g) w2 (w2.setCell ⟨g, 6, none⟩ (.slice A2 (σ.out ++ [(⟨X, s, Y⟩ : Due)]).length c2)) := (Only.refl (fun q => q = g) w2).setCell (p := ⟨g, 6, none⟩) (.inl rfl) _
    have hoW : Only (fun k => k = g ∨ (Value.slice V m vc).ownBlock = some k) w (w2.setCell ⟨g, 6, none⟩ (.slice A2 (σ.out ++ [(⟨X, s, Y⟩ : Due)]).length c2)) := (((HO9.out.drew.mono (S2 := fun k => k = g ∨ (Value.slice V m vc).ownBlock = some k) (fun _ h => .inl h)).trans (HO6.out.mono (fun _ h => .inr h))).setCell (.inl (.inl rfl)) _)
    refine Lib.hid ⟨_, ⟨?_, Row.only HI6.out hoS (fun k hk e => Ds.ne HI6.out HB6.out (by decide) (by rw [hk, e])), HG.out.ge, HG.out.ans, hoW.below HBE.out HBE.out.size (fun k hk => hk.elim (fun e => by have := HG.out.ge; omega) (fun e => (Row.own HG.out.row (by rw [HM.out] at e; exact e)).1))⟩, hoW⟩
    rw [← HN.out]
    exact blk_set HB6.out 6 _
  generalize (σ.out ++ [(⟨X, s, Y⟩ : Due)]).length = d2 at *
  go_region_law ((rw [if_pos (by rfl)]; refine Go.Lib.wp_append_run_sl _ (.tmp 84) (.tmp 86) 38 rfl _ _ rfl rfl hr2' ?_))
  all_goals
    go_wp2
    go_end0
    rw [HM.out] at HG7
    exact ⟨rfl, HG7.out⟩

set_option maxHeartbeats 4000000 in
set_option maxRecDepth 100000 in
theorem send_b {w0 w : World} {g : Nat} {K : Kst} {A : Option Addr} {c : Nat} {σ : St} {v : Value} (h : Gm w0 w g K A c σ v) (s : Int) (hs : s = σ.sent + 1) (hb : 1 ≤ s ∧ s ≤ 5) (hl : σ.out.length ≤ 5) (at' : Int) (hc : s ≤ K.l.length ∧ ¬ 0 ≤ (rd_T36 K.l (s - 1)).f0) :
    Calls Try.prog 16 #[.pointer (some ⟨g, 0, none⟩), .int .i64 at'] w fun e w' => e = .returned (.tuple #[]) ∧ ∃ v', Gm w0 w' g K A c ⟨s, addT at' K.delay, σ.out ++ [⟨1125899906842624, s, 0⟩]⟩ v' ∧ Only (fun k => k = g ∨ v.ownBlock = some k) w w' := by
  obtain ⟨V, vc, rfl, _⟩ := h.row.form
  obtain ⟨m, hm⟩ : ∃ m, m = σ.out.length := ⟨_, rfl⟩
  obtain ⟨n, hn⟩ : ∃ n, n = K.l.length := ⟨_, rfl⟩
  obtain ⟨nx, hnx⟩ : ∃ nx, nx = addT at' K.delay := ⟨_, rfl⟩
  rw [← hnx]
  have HM := Lib.hid hm
  have HN := Lib.hid hn
  have HNX := Lib.hid hnx
  have HG := Lib.hid h
  have HBE := Lib.hid h.bel
  have hblk := h.blk
  rw [← hm, ← hn] at hblk
  have hd4 : w.cell? ⟨g, 4, none⟩ = some (.int .i64 σ.sent) := cell_at hblk 4 rfl
  have hf4 : w.frozen? ⟨g, 4, none⟩ = false := blk_frozen hblk 4
  have hblk1 : (w.setCell ⟨g, 4, none⟩ (.int .i64 s)).heap[g]? = some (.cells #[.int .i64 K.most, .int .i64 K.delay, .int .i64 K.dl, .slice A n c, .int .i64 s, .int .i64 σ.next, .slice V m vc] 40 (0, 0)) := blk_set hblk 4 _
  have he1 : (w.setCell ⟨g, 4, none⟩ (.int .i64 s)).cell? ⟨g, 1, none⟩ = some (.int .i64 K.delay) := cell_at hblk1 1 rfl
  have he5 : (w.setCell ⟨g, 4, none⟩ (.int .i64 s)).cell? ⟨g, 5, none⟩ = some (.int .i64 σ.next) := cell_at hblk1 5 rfl
  have hf5 : (w.setCell ⟨g, 4, none⟩ (.int .i64 s)).frozen? ⟨g, 5, none⟩ = false := blk_frozen hblk1 5
  have hblk2 : ((w.setCell ⟨g, 4, none⟩ (.int .i64 s)).setCell ⟨g, 5, none⟩ (.int .i64 nx)).heap[g]? = some (.cells #[.int .i64 K.most, .int .i64 K.delay, .int .i64 K.dl, .slice A n c, .int .i64 s, .int .i64 nx, .slice V m vc] 40 (0, 0)) := blk_set hblk1 5 _
  have hg4 : ((w.setCell ⟨g, 4, none⟩ (.int .i64 s)).setCell ⟨g, 5, none⟩ (.int .i64 nx)).cell? ⟨g, 4, none⟩ = some (.int .i64 s) := cell_at hblk2 4 rfl
  have hO2 : Only (fun k => k = g) w ((w.setCell ⟨g, 4, none⟩ (.int .i64 s)).setCell ⟨g, 5, none⟩ (.int .i64 nx)) := ((Only.refl (fun k => k = g) w).setCell (p := ⟨g, 4, none⟩) (.inl rfl) _).setCell (p := ⟨g, 5, none⟩) (.inl rfl) _
  have hr2 : Row 3 51 ((w.setCell ⟨g, 4, none⟩ (.int .i64 s)).setCell ⟨g, 5, none⟩ (.int .i64 nx)) (fun k => w0.heap.size ≤ k) (.slice V m vc) m (σ.out.flatMap encD) := by
    rw [hm]
    exact h.row.only hO2 (fun i hi e => h.row.ne h.blk (by decide) (by rw [hi, e]))
  have hO3 := hO2.alloc (.cells #[.int .i64 1125899906842624, .int .i64 s, .int .i64 0] 51)
  have HO3 := Lib.hid hO3
  have HB3 := Lib.hid (((Only.refl (fun _ => False) ((w.setCell ⟨g, 4, none⟩ (.int .i64 s)).setCell ⟨g, 5, none⟩ (.int .i64 nx))).alloc (.cells #[.int .i64 1125899906842624, .int .i64 s, .int .i64 0] 51)).blk hblk2 (fun h => h))
  have HR3 := Lib.hid (hr2.only ((Only.refl (fun _ => False) ((w.setCell ⟨g, 4, none⟩ (.int .i64 s)).setCell ⟨g, 5, none⟩ (.int .i64 nx))).alloc (.cells #[.int .i64 1125899906842624, .int .i64 s, .int .i64 0] 51)) (fun _ _ h => h))
  have HK3 := Lib.hid (heap_alloc_new ((w.setCell ⟨g, 4, none⟩ (.int .i64 s)).setCell ⟨g, 5, none⟩ (.int .i64 nx)) (.cells #[.int .i64 1125899906842624, .int .i64 s, .int .i64 0] 51))
  have hsz2 : ((w.setCell ⟨g, 4, none⟩ (.int .i64 s)).setCell ⟨g, 5, none⟩ (.int .i64 nx)).heap.size = w.heap.size := by simp [World.setCell]
  rw [hsz2] at HK3
  have hw1 : wrap64 (σ.sent + 1) = s := by unfold wrap64; omega
  obtain ⟨j, hj⟩ : ∃ j, j = s - 1 := ⟨_, rfl⟩
  have hw2 : wrap64 (s - 1) = j := by unfold wrap64; omega
  have hw3 : IntKind.i64.wrap (s - 1) = j := by rw [IntKind.wrap_i64]; omega
  have hj0 : 0 ≤ j := by omega
  have hjs : j < s := by omega
  try rw [← hj] at hc
  try rw [← hj]
  have HAN := Lib.hid h.ans
  have hgw : w0.heap.size ≤ g := h.ge
  rw [← hn] at hc
  have HS := Lib.hid hs
  have HBD := Lib.hid hb
  clear hr2 hO2 hO3 hblk hblk1 hblk2 h hn hm hnx hj hs hb
  obtain ⟨hc1, hc2⟩ := hc
  have hjn : j < (n : Int) := by omega
  rw [← HN.out] at HAN
  obtain ⟨ad, rfl, ha0, ha1⟩ := at_T36 HAN.out j hj0 hjn
  generalize rd_T36 K.l j = x at *
  have HL2 : Hid (σ.out.length ≤ 2000) := Lib.hid (by omega)
  have HP : Hid (w.heap.size ≤ w.heap.size ∧ g < w.heap.size) := Lib.hid ⟨Nat.le_refl _, blk_lt HG.out.blk⟩
  go_enter Try.func16, Try.ntmps16
  go_wp2_with (go_at_call 22; refine (add_p _ _ _).mono ?_; rintro e w' ⟨rfl, rfl⟩; rw [← HNX.out])
  clear hd4 hf4 he1 he5 hf5 hg4 hsz2 hw1
  generalize ((w.setCell ⟨g, 4, none⟩ (.int .i64 s)).setCell ⟨g, 5, none⟩ (.int .i64 nx)).alloc (.cells #[.int .i64 1125899906842624, .int .i64 s, .int .i64 0] 51) = w3 at *
  obtain ⟨p, hp⟩ : ∃ p, p = w.heap.size := ⟨_, rfl⟩
  rw [← hp] at HK3 HP ⊢
  have HPW := Lib.hid hp
  have hpg : g < p := HP.out.2
  clear hp HP
  have hk4 : w3.cell? ⟨g, 4, none⟩ = some (.int .i64 s) := cell_at HB3.out 4 rfl
  have hk3 : w3.cell? ⟨g, 3, none⟩ = some (.slice (some ad) n c) := cell_at HB3.out 3 rfl
  have HB3W : Hid (Below w0.heap.size w0 w3) := Lib.hid (HO3.out.below HBE.out HBE.out.size (fun k hk => by have := HG.out.ge; omega))
  have hx0 := (HB3W.out.cell (World.block_lt_of_cell? w0 _ ha0)).trans ha0
  have hx1 := (HB3W.out.cell (World.block_lt_of_cell? w0 _ ha1)).trans ha1
  go_wp2
  go_quiet (fail)
  go_wp2
  clear hk4 hk3
  obtain ⟨w9, hw9⟩ : ∃ w9, w9 = w3.drewN nq := ⟨_, rfl⟩
  have HK9 : Hid (w9.heap[p]? = some (.cells #[.int .i64 1125899906842624, .int .i64 s, .int .i64 0] 51 (0, 0))) := by rw [hw9]; exact HK3
  have HO9 : Hid (Only (fun k => k = g) w w9) := by rw [hw9]; exact Lib.hid (HO3.out.drewN _)
  have HB9 : Hid (w9.heap[g]? = some (.cells #[.int .i64 K.most, .int .i64 K.delay, .int .i64 K.dl, .slice (some ad) n c, .int .i64 s, .int .i64 nx, .slice V m vc] 40 (0, 0))) := by rw [hw9]; exact HB3
  have HR9 : Hid (Row 3 51 w9 (fun k => w0.heap.size ≤ k) (.slice V m vc) m (σ.out.flatMap encD)) := by rw [hw9]; exact HR3
  rw [← hw9]
  clear hw9

  have hP9 : w0.heap.size ≤ w9.heap.size := by have h1 := HO9.out.size; have h2 := HBE.out.size; omega
  have hx0 : w9.cell? ⟨g, 6, none⟩ = some (.slice V m vc) := cell_at HB9.out 6 rfl
  have hy0 : w9.cell? ⟨p, 0, none⟩ = some (.int .i64 1125899906842624) := cell_at HK9.out 0 rfl
  have hy1 : w9.cell? ⟨p, 1, none⟩ = some (.int .i64 s) := cell_at HK9.out 1 rfl
  have hy2 : w9.cell? ⟨p, 2, none⟩ = some (.int .i64 0) := cell_at HK9.out 2 rfl
  have hDs : Ds w9.drew (fun k => w0.heap.size ≤ k) (.slice V m vc) σ.out := by unfold Ds; rw [← HM.out]; exact HR9.out
  obtain ⟨v2, w2, hr2, hI2, hO2⟩ := Ds.app (W := w9.drew) hDs (fun k hk => by have h3 : w9.heap.size ≤ k := hk; omega) HL2.out ⟨1125899906842624, s, 0⟩ 38
  have hr2' : (Builtin.append_ #[38, 38] 38 #[.slice V m vc, .slice (some ⟨w9.heap.size, 0, none⟩) 1 1]).run Try.prog (w9.alloc (.cells #[.int .i64 1125899906842624, .int .i64 s, .int .i64 0] 51)).drew = .ok v2 w2 := hr2
  have hOA : Only (fun _ => False) w9 (w9.alloc (.cells #[.int .i64 1125899906842624, .int .i64 s, .int .i64 0] 51)).drew := ((Only.refl _ w9).alloc _).drew
  have hB2 : w2.heap[g]? = some (.cells #[.int .i64 K.most, .int .i64 K.delay, .int .i64 K.dl, .slice (some ad) n c, .int .i64 s, .int .i64 nx, .slice V m vc] 40 (0, 0)) := hO2.blk (w := w9.drew) HB9.out (Ds.ne hDs HB9.out)
  have hxa : (w9.alloc (.cells #[.int .i64 1125899906842624, .int .i64 s, .int .i64 0] 51)).drew.cell? ⟨g, 6, none⟩ = some (.slice V m vc) := cell_at (hOA.blk HB9.out (fun h => h)) 6 rfl
  have hya0 : (w9.alloc (.cells #[.int .i64 1125899906842624, .int .i64 s, .int .i64 0] 51)).drew.cell? ⟨p, 0, none⟩ = some (.int .i64 1125899906842624) := cell_at (hOA.blk HK9.out (fun h => h)) 0 rfl
  have hya1 : (w9.alloc (.cells #[.int .i64 1125899906842624, .int .i64 s, .int .i64 0] 51)).drew.cell? ⟨p, 1, none⟩ = some (.int .i64 s) := cell_at (hOA.blk HK9.out (fun h => h)) 1 rfl
  have hya2 : (w9.alloc (.cells #[.int .i64 1125899906842624, .int .i64 s, .int .i64 0] 51)).drew.cell? ⟨p, 2, none⟩ = some (.int .i64 0) := cell_at (hOA.blk HK9.out (fun h => h)) 2 rfl
  have hxb : w2.cell? ⟨g, 6, none⟩ = some (.slice V m vc) := cell_at hB2 6 rfl
  have hfb : w2.frozen? ⟨g, 6, none⟩ = false := blk_frozen hB2 6
  have HI6 := Lib.hid hI2
  have HO6 := Lib.hid hO2
  have HB6 := Lib.hid hB2
  clear hr2 hI2 hO2 hOA hB2 hDs
  obtain ⟨A2, c2, e2, _⟩ := HI6.out.form
  subst e2
  have HG7 : Hid (∃ v', Gm w0 (w2.setCell ⟨g, 6, none⟩ (.slice A2 (σ.out ++ [(⟨1125899906842624, s, 0⟩ : Due)]).length c2)) g K (some ad) c ⟨s, nx, σ.out ++ [(⟨1125899906842624, s, 0⟩ : Due)]⟩ v' ∧ Only (fun k => k = g ∨ (Value.slice V m vc).ownBlock = some k) w (w2.setCell ⟨g, 6, none⟩ (.slice A2 (σ.out ++ [(⟨1125899906842624, s, 0⟩ : Due)]).length c2))) := by
    have hoS : Only (fun q => q = g) w2 (w2.setCell ⟨g, 6, none⟩ (.slice A2 (σ.out ++ [(⟨1125899906842624, s, 0⟩ : Due)]).length c2)) := (Only.refl (fun q => q = g) w2).setCell (p := ⟨g, 6, none⟩) (.inl rfl) _
    have hoW : Only (fun k => k = g ∨ (Value.slice V m vc).ownBlock = some k) w (w2.setCell ⟨g, 6, none⟩ (.slice A2 (σ.out ++ [(⟨1125899906842624, s, 0⟩ : Due)]).length c2)) := (((HO9.out.drew.mono (S2 := fun k => k = g ∨ (Value.slice V m vc).ownBlock = some k) (fun _ h => .inl h)).trans (HO6.out.mono (fun _ h => .inr h))).setCell (.inl (.inl rfl)) _)
    refine Lib.hid ⟨_, ⟨?_, Row.only HI6.out hoS (fun k hk e => Ds.ne HI6.out HB6.out (by decide) (by rw [hk, e])), HG.out.ge, HG.out.ans, hoW.below HBE.out HBE.out.size (fun k hk => hk.elim (fun e => by have := HG.out.ge; omega) (fun e => (Row.own HG.out.row (by rw [HM.out] at e; exact e)).1))⟩, hoW⟩
    rw [← HN.out]
    exact blk_set HB6.out 6 _
  generalize (σ.out ++ [(⟨1125899906842624, s, 0⟩ : Due)]).length = d2 at *
  go_region_law ((rw [if_pos (by rfl)]; refine Go.Lib.wp_append_run_sl _ (.tmp 84) (.tmp 86) 38 rfl _ _ rfl rfl hr2' ?_))
  all_goals
    go_wp2
    go_end0
    rw [HM.out] at HG7
    exact ⟨rfl, HG7.out⟩

set_option maxHeartbeats 4000000 in
set_option maxRecDepth 100000 in
theorem send_c {w0 w : World} {g : Nat} {K : Kst} {A : Option Addr} {c : Nat} {σ : St} {v : Value} (h : Gm w0 w g K A c σ v) (s : Int) (hs : s = σ.sent + 1) (hb : 1 ≤ s ∧ s ≤ 5) (hl : σ.out.length ≤ 5) (at' : Int) (hc : ¬ s ≤ K.l.length) :
    Calls Try.prog 16 #[.pointer (some ⟨g, 0, none⟩), .int .i64 at'] w fun e w' => e = .returned (.tuple #[]) ∧ ∃ v', Gm w0 w' g K A c ⟨s, addT at' K.delay, σ.out ++ [⟨1125899906842624, s, 0⟩]⟩ v' ∧ Only (fun k => k = g ∨ v.ownBlock = some k) w w' := by
  obtain ⟨V, vc, rfl, _⟩ := h.row.form
  obtain ⟨m, hm⟩ : ∃ m, m = σ.out.length := ⟨_, rfl⟩
  obtain ⟨n, hn⟩ : ∃ n, n = K.l.length := ⟨_, rfl⟩
  obtain ⟨nx, hnx⟩ : ∃ nx, nx = addT at' K.delay := ⟨_, rfl⟩
  rw [← hnx]
  have HM := Lib.hid hm
  have HN := Lib.hid hn
  have HNX := Lib.hid hnx
  have HG := Lib.hid h
  have HBE := Lib.hid h.bel
  have hblk := h.blk
  rw [← hm, ← hn] at hblk
  have hd4 : w.cell? ⟨g, 4, none⟩ = some (.int .i64 σ.sent) := cell_at hblk 4 rfl
  have hf4 : w.frozen? ⟨g, 4, none⟩ = false := blk_frozen hblk 4
  have hblk1 : (w.setCell ⟨g, 4, none⟩ (.int .i64 s)).heap[g]? = some (.cells #[.int .i64 K.most, .int .i64 K.delay, .int .i64 K.dl, .slice A n c, .int .i64 s, .int .i64 σ.next, .slice V m vc] 40 (0, 0)) := blk_set hblk 4 _
  have he1 : (w.setCell ⟨g, 4, none⟩ (.int .i64 s)).cell? ⟨g, 1, none⟩ = some (.int .i64 K.delay) := cell_at hblk1 1 rfl
  have he5 : (w.setCell ⟨g, 4, none⟩ (.int .i64 s)).cell? ⟨g, 5, none⟩ = some (.int .i64 σ.next) := cell_at hblk1 5 rfl
  have hf5 : (w.setCell ⟨g, 4, none⟩ (.int .i64 s)).frozen? ⟨g, 5, none⟩ = false := blk_frozen hblk1 5
  have hblk2 : ((w.setCell ⟨g, 4, none⟩ (.int .i64 s)).setCell ⟨g, 5, none⟩ (.int .i64 nx)).heap[g]? = some (.cells #[.int .i64 K.most, .int .i64 K.delay, .int .i64 K.dl, .slice A n c, .int .i64 s, .int .i64 nx, .slice V m vc] 40 (0, 0)) := blk_set hblk1 5 _
  have hg4 : ((w.setCell ⟨g, 4, none⟩ (.int .i64 s)).setCell ⟨g, 5, none⟩ (.int .i64 nx)).cell? ⟨g, 4, none⟩ = some (.int .i64 s) := cell_at hblk2 4 rfl
  have hO2 : Only (fun k => k = g) w ((w.setCell ⟨g, 4, none⟩ (.int .i64 s)).setCell ⟨g, 5, none⟩ (.int .i64 nx)) := ((Only.refl (fun k => k = g) w).setCell (p := ⟨g, 4, none⟩) (.inl rfl) _).setCell (p := ⟨g, 5, none⟩) (.inl rfl) _
  have hr2 : Row 3 51 ((w.setCell ⟨g, 4, none⟩ (.int .i64 s)).setCell ⟨g, 5, none⟩ (.int .i64 nx)) (fun k => w0.heap.size ≤ k) (.slice V m vc) m (σ.out.flatMap encD) := by
    rw [hm]
    exact h.row.only hO2 (fun i hi e => h.row.ne h.blk (by decide) (by rw [hi, e]))
  have hO3 := hO2.alloc (.cells #[.int .i64 1125899906842624, .int .i64 s, .int .i64 0] 51)
  have HO3 := Lib.hid hO3
  have HB3 := Lib.hid (((Only.refl (fun _ => False) ((w.setCell ⟨g, 4, none⟩ (.int .i64 s)).setCell ⟨g, 5, none⟩ (.int .i64 nx))).alloc (.cells #[.int .i64 1125899906842624, .int .i64 s, .int .i64 0] 51)).blk hblk2 (fun h => h))
  have HR3 := Lib.hid (hr2.only ((Only.refl (fun _ => False) ((w.setCell ⟨g, 4, none⟩ (.int .i64 s)).setCell ⟨g, 5, none⟩ (.int .i64 nx))).alloc (.cells #[.int .i64 1125899906842624, .int .i64 s, .int .i64 0] 51)) (fun _ _ h => h))
  have HK3 := Lib.hid (heap_alloc_new ((w.setCell ⟨g, 4, none⟩ (.int .i64 s)).setCell ⟨g, 5, none⟩ (.int .i64 nx)) (.cells #[.int .i64 1125899906842624, .int .i64 s, .int .i64 0] 51))
  have hsz2 : ((w.setCell ⟨g, 4, none⟩ (.int .i64 s)).setCell ⟨g, 5, none⟩ (.int .i64 nx)).heap.size = w.heap.size := by simp [World.setCell]
  rw [hsz2] at HK3
  have hw1 : wrap64 (σ.sent + 1) = s := by unfold wrap64; omega
  obtain ⟨j, hj⟩ : ∃ j, j = s - 1 := ⟨_, rfl⟩
  have hw2 : wrap64 (s - 1) = j := by unfold wrap64; omega
  have hw3 : IntKind.i64.wrap (s - 1) = j := by rw [IntKind.wrap_i64]; omega
  have hj0 : 0 ≤ j := by omega
  have hjs : j < s := by omega
  try rw [← hj] at hc
  try rw [← hj]
  have HAN := Lib.hid h.ans
  have hgw : w0.heap.size ≤ g := h.ge
  rw [← hn] at hc
  have HS := Lib.hid hs
  have HBD := Lib.hid hb
  clear hr2 hO2 hO3 hblk hblk1 hblk2 h hn hm hnx hj hs hb
  have hc' : (n : Int) < s := by omega
  have hcd : decide (s ≤ (n : Int)) = false := decide_eq_false hc
  have HL2 : Hid (σ.out.length ≤ 2000) := Lib.hid (by omega)
  have HP : Hid (w.heap.size ≤ w.heap.size ∧ g < w.heap.size) := Lib.hid ⟨Nat.le_refl _, blk_lt HG.out.blk⟩
  go_enter Try.func16, Try.ntmps16
  go_wp2_with (go_at_call 22; refine (add_p _ _ _).mono ?_; rintro e w' ⟨rfl, rfl⟩; rw [← HNX.out])
  clear hd4 hf4 he1 he5 hf5 hg4 hsz2 hw1
  generalize ((w.setCell ⟨g, 4, none⟩ (.int .i64 s)).setCell ⟨g, 5, none⟩ (.int .i64 nx)).alloc (.cells #[.int .i64 1125899906842624, .int .i64 s, .int .i64 0] 51) = w3 at *
  obtain ⟨p, hp⟩ : ∃ p, p = w.heap.size := ⟨_, rfl⟩
  rw [← hp] at HK3 HP ⊢
  have HPW := Lib.hid hp
  have hpg : g < p := HP.out.2
  clear hp HP
  have hk4 : w3.cell? ⟨g, 4, none⟩ = some (.int .i64 s) := cell_at HB3.out 4 rfl
  have hk3 : w3.cell? ⟨g, 3, none⟩ = some (.slice A n c) := cell_at HB3.out 3 rfl
  go_wp2
  go_quiet (fail)
  go_wp2
  clear hk4 hk3
  obtain ⟨w9, hw9⟩ : ∃ w9, w9 = w3.drewN nq := ⟨_, rfl⟩
  have HK9 : Hid (w9.heap[p]? = some (.cells #[.int .i64 1125899906842624, .int .i64 s, .int .i64 0] 51 (0, 0))) := by rw [hw9]; exact HK3
  have HO9 : Hid (Only (fun k => k = g) w w9) := by rw [hw9]; exact Lib.hid (HO3.out.drewN _)
  have HB9 : Hid (w9.heap[g]? = some (.cells #[.int .i64 K.most, .int .i64 K.delay, .int .i64 K.dl, .slice A n c, .int .i64 s, .int .i64 nx, .slice V m vc] 40 (0, 0))) := by rw [hw9]; exact HB3
  have HR9 : Hid (Row 3 51 w9 (fun k => w0.heap.size ≤ k) (.slice V m vc) m (σ.out.flatMap encD)) := by rw [hw9]; exact HR3
  rw [← hw9]
  clear hw9

  have hP9 : w0.heap.size ≤ w9.heap.size := by have h1 := HO9.out.size; have h2 := HBE.out.size; omega
  have hx0 : w9.cell? ⟨g, 6, none⟩ = some (.slice V m vc) := cell_at HB9.out 6 rfl
  have hy0 : w9.cell? ⟨p, 0, none⟩ = some (.int .i64 1125899906842624) := cell_at HK9.out 0 rfl
  have hy1 : w9.cell? ⟨p, 1, none⟩ = some (.int .i64 s) := cell_at HK9.out 1 rfl
  have hy2 : w9.cell? ⟨p, 2, none⟩ = some (.int .i64 0) := cell_at HK9.out 2 rfl
  have hDs : Ds w9.drew (fun k => w0.heap.size ≤ k) (.slice V m vc) σ.out := by unfold Ds; rw [← HM.out]; exact HR9.out
  obtain ⟨v2, w2, hr2, hI2, hO2⟩ := Ds.app (W := w9.drew) hDs (fun k hk => by have h3 : w9.heap.size ≤ k := hk; omega) HL2.out ⟨1125899906842624, s, 0⟩ 38
  have hr2' : (Builtin.append_ #[38, 38] 38 #[.slice V m vc, .slice (some ⟨w9.heap.size, 0, none⟩) 1 1]).run Try.prog (w9.alloc (.cells #[.int .i64 1125899906842624, .int .i64 s, .int .i64 0] 51)).drew = .ok v2 w2 := hr2
  have hOA : Only (fun _ => False) w9 (w9.alloc (.cells #[.int .i64 1125899906842624, .int .i64 s, .int .i64 0] 51)).drew := ((Only.refl _ w9).alloc _).drew
  have hB2 : w2.heap[g]? = some (.cells #[.int .i64 K.most, .int .i64 K.delay, .int .i64 K.dl, .slice A n c, .int .i64 s, .int .i64 nx, .slice V m vc] 40 (0, 0)) := hO2.blk (w := w9.drew) HB9.out (Ds.ne hDs HB9.out)
  have hxa : (w9.alloc (.cells #[.int .i64 1125899906842624, .int .i64 s, .int .i64 0] 51)).drew.cell? ⟨g, 6, none⟩ = some (.slice V m vc) := cell_at (hOA.blk HB9.out (fun h => h)) 6 rfl
  have hya0 : (w9.alloc (.cells #[.int .i64 1125899906842624, .int .i64 s, .int .i64 0] 51)).drew.cell? ⟨p, 0, none⟩ = some (.int .i64 1125899906842624) := cell_at (hOA.blk HK9.out (fun h => h)) 0 rfl
  have hya1 : (w9.alloc (.cells #[.int .i64 1125899906842624, .int .i64 s, .int .i64 0] 51)).drew.cell? ⟨p, 1, none⟩ = some (.int .i64 s) := cell_at (hOA.blk HK9.out (fun h => h)) 1 rfl
  have hya2 : (w9.alloc (.cells #[.int .i64 1125899906842624, .int .i64 s, .int .i64 0] 51)).drew.cell? ⟨p, 2, none⟩ = some (.int .i64 0) := cell_at (hOA.blk HK9.out (fun h => h)) 2 rfl
  have hxb : w2.cell? ⟨g, 6, none⟩ = some (.slice V m vc) := cell_at hB2 6 rfl
  have hfb : w2.frozen? ⟨g, 6, none⟩ = false := blk_frozen hB2 6
  have HI6 := Lib.hid hI2
  have HO6 := Lib.hid hO2
  have HB6 := Lib.hid hB2
  clear hr2 hI2 hO2 hOA hB2 hDs
  obtain ⟨A2, c2, e2, _⟩ := HI6.out.form
  subst e2
  have HG7 : Hid (∃ v', Gm w0 (w2.setCell ⟨g, 6, none⟩ (.slice A2 (σ.out ++ [(⟨1125899906842624, s, 0⟩ : Due)]).length c2)) g K A c ⟨s, nx, σ.out ++ [(⟨1125899906842624, s, 0⟩ : Due)]⟩ v' ∧ Only (fun k => k = g ∨ (Value.slice V m vc).ownBlock = some k) w (w2.setCell ⟨g, 6, none⟩ (.slice A2 (σ.out ++ [(⟨1125899906842624, s, 0⟩ : Due)]).length c2))) := by
    have hoS : Only (fun q => q = g) w2 (w2.setCell ⟨g, 6, none⟩ (.slice A2 (σ.out ++ [(⟨1125899906842624, s, 0⟩ : Due)]).length c2)) := (Only.refl (fun q => q = g) w2).setCell (p := ⟨g, 6, none⟩) (.inl rfl) _
    have hoW : Only (fun k => k = g ∨ (Value.slice V m vc).ownBlock = some k) w (w2.setCell ⟨g, 6, none⟩ (.slice A2 (σ.out ++ [(⟨1125899906842624, s, 0⟩ : Due)]).length c2)) := (((HO9.out.drew.mono (S2 := fun k => k = g ∨ (Value.slice V m vc).ownBlock = some k) (fun _ h => .inl h)).trans (HO6.out.mono (fun _ h => .inr h))).setCell (.inl (.inl rfl)) _)
    refine Lib.hid ⟨_, ⟨?_, Row.only HI6.out hoS (fun k hk e => Ds.ne HI6.out HB6.out (by decide) (by rw [hk, e])), HG.out.ge, HG.out.ans, hoW.below HBE.out HBE.out.size (fun k hk => hk.elim (fun e => by have := HG.out.ge; omega) (fun e => (Row.own HG.out.row (by rw [HM.out] at e; exact e)).1))⟩, hoW⟩
    rw [← HN.out]
    exact blk_set HB6.out 6 _
  generalize (σ.out ++ [(⟨1125899906842624, s, 0⟩ : Due)]).length = d2 at *
  go_region_law ((rw [if_pos (by rfl)]; refine Go.Lib.wp_append_run_sl _ (.tmp 84) (.tmp 86) 38 rfl _ _ rfl rfl hr2' ?_))
  all_goals
    go_wp2
    go_end0
    rw [HM.out] at HG7
    exact ⟨rfl, HG7.out⟩

theorem send_p {w0 w : World} {g : Nat} {K : Kst} {A : Option Addr} {c : Nat} {σ : St} {v : Value} (h : Gm w0 w g K A c σ v) (hb : 0 ≤ σ.sent ∧ σ.sent ≤ 4) (hl : σ.out.length ≤ 5) (at' : Int) :
    Calls Try.prog 16 #[.pointer (some ⟨g, 0, none⟩), .int .i64 at'] w fun e w' => e = .returned (.tuple #[]) ∧ ∃ v', Gm w0 w' g K A c (sendM K σ at') v' ∧ Only (fun k => k = g ∨ v.ownBlock = some k) w w' := by
  unfold sendM dueOf
  by_cases hc : σ.sent + 1 ≤ K.l.length
  · by_cases hc2 : 0 ≤ (rd_T36 K.l (σ.sent + 1 - 1)).f0
    · rw [if_pos ⟨hc, hc2⟩]
      exact send_a h _ rfl (by omega) hl at' ⟨hc, hc2⟩
    · rw [if_neg (fun e => hc2 e.2)]
      exact send_b h _ rfl (by omega) hl at' ⟨hc, hc2⟩
  · rw [if_neg (fun e => hc e.1)]
    exact send_c h _ rfl (by omega) hl at' hc

end Go.Proofs.Ytpkmpbocgbmliaa.Hd

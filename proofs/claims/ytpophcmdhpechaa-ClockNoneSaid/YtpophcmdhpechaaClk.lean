/- The contracts of the functions of clock, and of its reference, that the laws reach: what a call answers, and what the clocks hold behind it. -/
import Derived.Test.YtpophcmdhpechaaProg
import Derived.Test.YtpophcmdhpechaaBase
set_option linter.unusedVariables false
set_option linter.unusedSimpArgs false
namespace Go.Proofs.Ytpophcmdhpechaa.Clk
open Go.RowKit Go.Proofs.Ytpophcmdhpechaa.Base Go.Proofs.YtpophcmdhpechaaW.PrintWords Go.Proofs.YtpophcmdhpechaaW.PrintMore
attribute [local go_sem] max2_mx min2_mn max_two min_two max_three min_three max_four min_four

theorem clamp_p (a : Int) (w : World) : Calls Try.prog 32 #[.int .i64 a] w fun e w' => e = .returned (.int .i64 (cl a)) ∧ w' = w := by
  have h := cl_mn a
  go_enter Try.func32, Try.ntmps32
  go_wp2
  go_ret
  exact ⟨rfl, rfl⟩

theorem clamp_r (a : Int) (w : World) : Calls Try.prog 35 #[.int .i64 a] w fun e w' => e = .returned (.int .i64 (cl a)) ∧ w' = w := by
  by_cases h1 : a < 0
  · have h : 0 = cl a := by unfold cl; rw [if_pos h1]
    go_enter Try.func35, Try.ntmps35
    go_wp2
    go_ret
    exact ⟨ret_int h, rfl⟩
  · by_cases h2 : 1125899906842624 < a
    · have h : 1125899906842624 = cl a := by unfold cl; rw [if_neg h1, if_pos h2]
      go_enter Try.func35, Try.ntmps35
      go_wp2
      go_ret
      exact ⟨ret_int rfl, rfl⟩
    · have h : a = cl a := by unfold cl; rw [if_neg h1, if_neg h2]
      have H := Lib.hid h
      clear h
      go_enter Try.func35, Try.ntmps35
      go_wp2
      go_ret
      exact ⟨ret_int H.out, rfl⟩

/-- The sum of two times. -/
def add (a b : Int) : Int := cl (cl a + cl b)

theorem clamp_pk (a : Int) (w : World) : Calls Try.prog 32 #[.int .i64 a] w fun e w' => e = .returned (.int .i64 (cl a)) ∧ w = w' :=
  (clamp_p a w).mono fun _ _ ⟨h, k⟩ => ⟨h, k.symm⟩
theorem clamp_rk (a : Int) (w : World) : Calls Try.prog 35 #[.int .i64 a] w fun e w' => e = .returned (.int .i64 (cl a)) ∧ w = w' :=
  (clamp_r a w).mono fun _ _ ⟨h, k⟩ => ⟨h, k.symm⟩

theorem add_p (a b : Int) (w : World) : Calls Try.prog 30 #[.int .i64 a, .int .i64 b] w fun e w' => e = .returned (.int .i64 (add a b)) ∧ w' = w := by
  have ha := cl_bounds a
  have hb := cl_bounds b
  go_enter Try.func30, Try.ntmps30
  go_wp2_with (go_at_call 32; refine (clamp_pk _ _).mono ?_; rintro e w' ⟨rfl, rfl⟩)
  go_ret
  exact ⟨rfl, rfl⟩

theorem add_r (a b : Int) (w : World) : Calls Try.prog 34 #[.int .i64 a, .int .i64 b] w fun e w' => e = .returned (.int .i64 (add a b)) ∧ w' = w := by
  have ha := cl_bounds a
  have hb := cl_bounds b
  by_cases hc : 1125899906842624 - cl b < cl a
  · have H := Lib.hid (show 1125899906842624 = add a b from (cl_big _ (by omega)).symm)
    go_enter Try.func34, Try.ntmps34
    go_wp2_with (go_at_call 35; refine (clamp_rk _ _).mono ?_; rintro e w' ⟨rfl, rfl⟩)
    go_ret
    exact ⟨ret_int H.out, rfl⟩
  · have H := Lib.hid (show cl a + cl b = add a b from (cl_same _ (by omega) (by omega)).symm)
    go_enter Try.func34, Try.ntmps34
    go_wp2_with (go_at_call 35; refine (clamp_rk _ _).mono ?_; rintro e w' ⟨rfl, rfl⟩)
    go_ret
    exact ⟨ret_int H.out, rfl⟩

/-- Clocks of type T: the struct's block g, the two rows' blocks ga, gs, all apart. -/
structure CK (T : TypeId) (w : World) (base g ga gs ca cs : Nat) (real skew : Int) (ap sd : List Int) : Prop where
  blk : w.heap[g]? = some (.cells #[.int .i64 real, .int .i64 skew, .slice (some ⟨ga, 0, none⟩) ap.length ca, .slice (some ⟨gs, 0, none⟩) sd.length cs] T (0, 0))
  ra : Kd.R (Kd.int .i64) 3 w base (fun k => k = ga) (.slice (some ⟨ga, 0, none⟩) ap.length ca) ap
  rs : Kd.R (Kd.int .i64) 3 w base (fun k => k = gs) (.slice (some ⟨gs, 0, none⟩) sd.length cs) sd
  n1 : g ≠ ga
  n2 : g ≠ gs
  n3 : ga ≠ gs
  b1 : base ≤ g
  b2 : base ≤ ga
  b3 : base ≤ gs

/-- The blocks of clocks. -/
def Own3 (g ga gs : Nat) : Nat → Prop := fun i => i = g ∨ i = ga ∨ i = gs

/-- What turns none of its blocks leaves clocks as they are. -/
theorem CK.keep {T : TypeId} {w w1 : World} {base g ga gs ca cs : Nat} {real skew : Int} {ap sd : List Int} {S : Nat → Prop} (h : CK T w base g ga gs ca cs real skew ap sd) (k : Only S w w1) (hS : ∀ i, S i → ¬ Own3 g ga gs i) : CK T w1 base g ga gs ca cs real skew ap sd :=
  ⟨k.blk h.blk (fun hh => hS g hh (.inl rfl)), Kd.R_step h.ra (fun i hi hlt => k.block i hlt (fun hh => hS i hh (.inr (.inl hi)))), Kd.R_step h.rs (fun i hi hlt => k.block i hlt (fun hh => hS i hh (.inr (.inr hi)))), h.n1, h.n2, h.n3, h.b1, h.b2, h.b3⟩

theorem CK.drewN {T : TypeId} {w : World} {base g ga gs ca cs : Nat} {real skew : Int} {ap sd : List Int} (h : CK T w base g ga gs ca cs real skew ap sd) (n : Nat) : CK T (w.drewN n) base g ga gs ca cs real skew ap sd :=
  h.keep (S := fun _ => False) ((Only.refl _ w).drewN n) (fun _ h => h.elim)
theorem CK.drew {T : TypeId} {w : World} {base g ga gs ca cs : Nat} {real skew : Int} {ap sd : List Int} (h : CK T w base g ga gs ca cs real skew ap sd) : CK T w.drew base g ga gs ca cs real skew ap sd :=
  h.keep (S := fun _ => False) ((Only.refl _ w).drew) (fun _ h => h.elim)

/-- The struct's first cell is turned. -/
theorem CK.set0 {T : TypeId} {w : World} {base g ga gs ca cs : Nat} {real skew : Int} {ap sd : List Int} (h : CK T w base g ga gs ca cs real skew ap sd) (x : Int) : CK T (w.setCell ⟨g, 0, none⟩ (.int .i64 x)) base g ga gs ca cs x skew ap sd :=
  ⟨blk_set h.blk 0 _, Kd.R_far h.ra (fun k hk e => h.n1 (by rw [← hk]; exact e.symm)) _, Kd.R_far h.rs (fun k hk e => h.n2 (by rw [← hk]; exact e.symm)) _, h.n1, h.n2, h.n3, h.b1, h.b2, h.b3⟩

/-- A place of the first row, of the second one, is turned. -/
theorem CK.setA {T : TypeId} {w : World} {base g ga gs ca cs : Nat} {real skew : Int} {ap sd : List Int} (h : CK T w base g ga gs ca cs real skew ap sd) (i x : Int) : CK T (w.setCell ⟨ga, i.toNat, none⟩ (.int .i64 x)) base g ga gs ca cs real skew (ap.set i.toNat x) sd := by
  have hp := (Kd.R_put (enc := Value.int .i64) (h1 := fun _ => rfl) h.ra i x).1
  refine ⟨?_, ?_, Kd.R_far h.rs (fun k hk e => h.n3 (by rw [← hk]; exact e.symm)) _, h.n1, h.n2, h.n3, h.b1, h.b2, h.b3⟩
  · rw [List.length_set]; exact blk_far h.blk h.n1 _
  · rw [List.length_set]; exact hp
theorem CK.setS {T : TypeId} {w : World} {base g ga gs ca cs : Nat} {real skew : Int} {ap sd : List Int} (h : CK T w base g ga gs ca cs real skew ap sd) (i x : Int) : CK T (w.setCell ⟨gs, i.toNat, none⟩ (.int .i64 x)) base g ga gs ca cs real skew ap (sd.set i.toNat x) := by
  have hp := (Kd.R_put (enc := Value.int .i64) (h1 := fun _ => rfl) h.rs i x).1
  refine ⟨?_, Kd.R_far h.ra (fun k hk e => h.n3 (by rw [← hk]; exact e)) _, ?_, h.n1, h.n2, h.n3, h.b1, h.b2, h.b3⟩
  · rw [List.length_set]; exact blk_far h.blk h.n2 _
  · rw [List.length_set]; exact hp

theorem CK.cellA {T : TypeId} {w : World} {base g ga gs ca cs : Nat} {real skew : Int} {ap sd : List Int} (h : CK T w base g ga gs ca cs real skew ap sd) (i : Int) (h0 : 0 ≤ i) (h1 : i < ap.length) : w.cell? ⟨ga, i.toNat, none⟩ = some (.int .i64 (rd ap i)) ∧ w.frozen? ⟨ga, i.toNat, none⟩ = false :=
  Kd.R_cell (enc := Value.int .i64) (h1 := fun _ => rfl) (0 : Int) h.ra i h0 h1
theorem CK.cellS {T : TypeId} {w : World} {base g ga gs ca cs : Nat} {real skew : Int} {ap sd : List Int} (h : CK T w base g ga gs ca cs real skew ap sd) (i : Int) (h0 : 0 ≤ i) (h1 : i < sd.length) : w.cell? ⟨gs, i.toNat, none⟩ = some (.int .i64 (rd sd i)) ∧ w.frozen? ⟨gs, i.toNat, none⟩ = false :=
  Kd.R_cell (enc := Value.int .i64) (h1 := fun _ => rfl) (0 : Int) h.rs i h0 h1

theorem real_p {w : World} {base g ga gs ca cs : Nat} {real skew : Int} {ap sd : List Int} (h : CK 54 w base g ga gs ca cs real skew ap sd) : Calls Try.prog 14 #[.pointer (some ⟨g, 0, none⟩)] w fun e w' => e = .returned (.int .i64 real) ∧ w = w' := by
  have hc0 : w.cell? ⟨g, 0, none⟩ = some (.int .i64 real) := cell_at h.blk 0 rfl
  clear h
  go_enter Try.func14, Try.ntmps14
  go_wp2
  go_ret
  exact ⟨rfl, rfl⟩

theorem skew_p {w : World} {base g ga gs ca cs : Nat} {real skew : Int} {ap sd : List Int} (h : CK 54 w base g ga gs ca cs real skew ap sd) : Calls Try.prog 11 #[.pointer (some ⟨g, 0, none⟩)] w fun e w' => e = .returned (.int .i64 skew) ∧ w = w' := by
  have hc0 : w.cell? ⟨g, 1, none⟩ = some (.int .i64 skew) := cell_at h.blk 1 rfl
  clear h
  go_enter Try.func11, Try.ntmps11
  go_wp2
  go_ret
  exact ⟨rfl, rfl⟩

theorem tick_p {w : World} {base g ga gs ca cs : Nat} {real skew : Int} {ap sd : List Int} (h : CK 54 w base g ga gs ca cs real skew ap sd) (n : Int) : Calls Try.prog 13 #[.pointer (some ⟨g, 0, none⟩), .int .i64 n] w fun e w' => e = .returned (.tuple #[]) ∧ CK 54 w' base g ga gs ca cs (add real n) skew ap sd ∧ Only (Own3 g ga gs) w w' := by
  have hc0 : w.cell? ⟨g, 0, none⟩ = some (.int .i64 real) := cell_at h.blk 0 rfl
  have hf0 : w.frozen? ⟨g, 0, none⟩ = false := blk_frozen h.blk 0
  have H := Lib.hid h
  clear h
  go_enter Try.func13, Try.ntmps13
  go_wp2_with (go_at_call 30; refine (add_p _ _ _).mono ?_; rintro e w' ⟨rfl, hw⟩; obtain rfl := hw.symm)
  go_end0
  exact ⟨rfl, H.out.set0 _, (Only.refl (Own3 g ga gs) w).setCell (.inl (.inl rfl)) _⟩

theorem tick_r {w : World} {base g ga gs ca cs : Nat} {real skew : Int} {ap sd : List Int} (h : CK 36 w base g ga gs ca cs real skew ap sd) (n : Int) : Calls Try.prog 27 #[.pointer (some ⟨g, 0, none⟩), .int .i64 n] w fun e w' => e = .returned (.tuple #[]) ∧ CK 36 w' base g ga gs ca cs (add real n) skew ap sd ∧ Only (Own3 g ga gs) w w' := by
  have hc0 : w.cell? ⟨g, 0, none⟩ = some (.int .i64 real) := cell_at h.blk 0 rfl
  have hf0 : w.frozen? ⟨g, 0, none⟩ = false := blk_frozen h.blk 0
  have H := Lib.hid h
  clear h
  go_enter Try.func27, Try.ntmps27
  go_wp2_with (go_at_call 34; refine (add_r _ _ _).mono ?_; rintro e w' ⟨rfl, hw⟩; obtain rfl := hw.symm)
  go_end0
  exact ⟨rfl, H.out.set0 _, (Only.refl (Own3 g ga gs) w).setCell (.inl (.inl rfl)) _⟩

theorem is_t {w : World} {base g ga gs ca cs : Nat} {real skew : Int} {ap sd : List Int} (h : CK 54 w base g ga gs ca cs real skew ap sd) (i : Int) (h0 : 0 ≤ i) (h1 : i < sd.length) : Calls Try.prog 31 #[.pointer (some ⟨g, 0, none⟩), .int .i64 i] w fun e w' => e = .returned (.bool true) ∧ w = w' := by
  have hc0 : w.cell? ⟨g, 3, none⟩ = some (.slice (some ⟨gs, 0, none⟩) sd.length cs) := cell_at h.blk 3 rfl
  clear h
  go_enter Try.func31, Try.ntmps31
  go_wp2
  go_ret
  exact ⟨rfl, rfl⟩

theorem is_f {w : World} {base g ga gs ca cs : Nat} {real skew : Int} {ap sd : List Int} (h : CK 54 w base g ga gs ca cs real skew ap sd) (i : Int) (h0 : ¬ (0 ≤ i ∧ i < sd.length)) : Calls Try.prog 31 #[.pointer (some ⟨g, 0, none⟩), .int .i64 i] w fun e w' => e = .returned (.bool false) ∧ w = w' := by
  have hc0 : w.cell? ⟨g, 3, none⟩ = some (.slice (some ⟨gs, 0, none⟩) sd.length cs) := cell_at h.blk 3 rfl
  clear h
  by_cases c : 0 ≤ i
  · have d : decide (i < (sd.length : Int)) = false := by simp; omega
    clear h0
    go_enter Try.func31, Try.ntmps31
    go_wp2
    go_ret
    exact ⟨rfl, rfl⟩
  · have d : decide (0 ≤ i) = false := by simp; omega
    clear h0
    go_enter Try.func31, Try.ntmps31
    go_wp2
    go_ret
    exact ⟨rfl, rfl⟩

/-- What a clock says. -/
def says (real : Int) (ap sd : List Int) (i : Int) : Int := mx (rd sd i) (cl (wrap64 (real + rd ap i)))

theorem rd_set (xs : List Int) (i : Int) (x : Int) (h0 : 0 ≤ i) (h1 : i < xs.length) : rd (xs.set i.toNat x) i = x := by
  unfold rd
  rw [List.getD_eq_getElem?_getD, List.getElem?_set_self (by omega)]; rfl

set_option maxHeartbeats 2000000 in
theorem read_p {w : World} {base g ga gs ca cs : Nat} {real skew : Int} {ap sd : List Int} (h : CK 54 w base g ga gs ca cs real skew ap sd) (i : Int) (hl : ap.length = sd.length) (h0 : 0 ≤ i) (h1 : i < sd.length) :
    Calls Try.prog 15 #[.pointer (some ⟨g, 0, none⟩), .int .i64 i] w fun e w' => e = .returned (.int .i64 (says real ap sd i)) ∧ CK 54 w' base g ga gs ca cs real skew ap (sd.set i.toNat (says real ap sd i)) ∧ Only (Own3 g ga gs) w w' := by
  have hc0 : w.cell? ⟨g, 0, none⟩ = some (.int .i64 real) := cell_at h.blk 0 rfl
  have hc2 : w.cell? ⟨g, 2, none⟩ = some (.slice (some ⟨ga, 0, none⟩) ap.length ca) := cell_at h.blk 2 rfl
  have hc3 : w.cell? ⟨g, 3, none⟩ = some (.slice (some ⟨gs, 0, none⟩) sd.length cs) := cell_at h.blk 3 rfl
  have h2 : i < ap.length := by omega
  obtain ⟨ha, _⟩ := h.cellA i h0 h2
  obtain ⟨hs, hfs⟩ := h.cellS i h0 h1
  have H := Lib.hid h
  have HIS := Lib.hid (is_t h i h0 h1)
  have h3 := h.setS i (mx (rd sd i) (cl (wrap64 (real + rd ap i))))
  have hc3' : (w.setCell ⟨gs, i.toNat, none⟩ (.int .i64 (mx (rd sd i) (cl (wrap64 (real + rd ap i)))))).cell? ⟨g, 3, none⟩ = some (.slice (some ⟨gs, 0, none⟩) sd.length cs) := by
    have := cell_at h3.blk 3 rfl
    simpa using this
  have H3 := Lib.hid h3
  clear h hl h3
  go_enter Try.func15, Try.ntmps15
  go_wp2_with (go_at_call 31; refine HIS.out.mono ?_; rintro e w' ⟨rfl, rfl⟩)
  go_still_tail 27, (by kernel_rfl)
  still_call (clamp_p _ _)
  repeat still_step
  refine wpStill_nil ?_
  change wpList _ _ _ _ _ w.drew
  go_wp2
  go_ret
  refine ⟨rfl, H3.out.drew, ((Only.refl (Own3 g ga gs) w).setCell (.inl (.inr (.inr rfl))) _).drew⟩

theorem read_no {w : World} {base g ga gs ca cs : Nat} {real skew : Int} {ap sd : List Int} (h : CK 54 w base g ga gs ca cs real skew ap sd) (i : Int) (h0 : ¬ (0 ≤ i ∧ i < sd.length)) :
    Calls Try.prog 15 #[.pointer (some ⟨g, 0, none⟩), .int .i64 i] w fun e w' => e = .returned (.int .i64 0) ∧ w = w' := by
  have HIS := Lib.hid (is_f h i h0)
  clear h h0
  go_enter Try.func15, Try.ntmps15
  go_wp2_with (go_at_call 31; refine HIS.out.mono ?_; rintro e w' ⟨rfl, rfl⟩)
  go_ret
  exact ⟨rfl, rfl⟩

/-- How far a clock is put apart. -/
def shB (skew by_ : Int) : Int := mn (mx by_ (-skew)) skew

set_option maxHeartbeats 2000000 in
theorem shift_p {w : World} {base g ga gs ca cs : Nat} {real skew : Int} {ap sd : List Int} (h : CK 54 w base g ga gs ca cs real skew ap sd) (i by_ : Int) (hl : ap.length = sd.length) (h0 : 0 ≤ i) (h1 : i < sd.length) (k0 : 0 ≤ skew) (k1 : skew ≤ 1000) :
    Calls Try.prog 16 #[.pointer (some ⟨g, 0, none⟩), .int .i64 i, .int .i64 by_] w fun e w' => e = .returned (.int .i64 0) ∧ CK 54 w' base g ga gs ca cs real skew (ap.set i.toNat (shB skew by_)) sd ∧ Only (Own3 g ga gs) w w' := by
  have hc1 : w.cell? ⟨g, 1, none⟩ = some (.int .i64 skew) := cell_at h.blk 1 rfl
  have hc2 : w.cell? ⟨g, 2, none⟩ = some (.slice (some ⟨ga, 0, none⟩) ap.length ca) := cell_at h.blk 2 rfl
  have h2 : i < ap.length := by omega
  obtain ⟨ha, hfa⟩ := h.cellA i h0 h2
  have HIS := Lib.hid (is_t h i h0 h1)
  have H3 := Lib.hid (h.setA i (shB skew by_))
  clear h hl
  go_enter Try.func16, Try.ntmps16
  go_wp2_with (go_at_call 31; refine HIS.out.mono ?_; rintro e w' ⟨rfl, rfl⟩)
  have hng : IntKind.i64.wrap (-skew) = -skew := by rw [wrap_i64]; unfold wrap64; omega
  go_still_tail 18, (by kernel_rfl)
  change wpList _ _ _ _ _ w.drew
  go_wp2
  go_ret
  exact ⟨rfl, H3.out.drew, ((Only.refl (Own3 g ga gs) w).setCell (.inl (.inr (.inl rfl))) _).drew⟩

theorem shift_no {w : World} {base g ga gs ca cs : Nat} {real skew : Int} {ap sd : List Int} (h : CK 54 w base g ga gs ca cs real skew ap sd) (i by_ : Int) (h0 : ¬ (0 ≤ i ∧ i < sd.length)) :
    Calls Try.prog 16 #[.pointer (some ⟨g, 0, none⟩), .int .i64 i, .int .i64 by_] w fun e w' => e = .returned (.int .i64 7) ∧ w = w' := by
  have HIS := Lib.hid (is_f h i h0)
  clear h h0
  go_enter Try.func16, Try.ntmps16
  go_wp2_with (go_at_call 31; refine HIS.out.mono ?_; rintro e w' ⟨rfl, rfl⟩)
  go_ret
  exact ⟨rfl, rfl⟩

theorem shift_r_no {w : World} {base g ga gs ca cs : Nat} {real skew : Int} {ap sd : List Int} (h : CK 36 w base g ga gs ca cs real skew ap sd) (i by_ : Int) (h0 : ¬ (0 ≤ i ∧ i < sd.length)) :
    Calls Try.prog 28 #[.pointer (some ⟨g, 0, none⟩), .int .i64 i, .int .i64 by_] w fun e w' => e = .returned (.int .i64 7) ∧ w = w' := by
  have hc3 : w.cell? ⟨g, 3, none⟩ = some (.slice (some ⟨gs, 0, none⟩) sd.length cs) := cell_at h.blk 3 rfl
  clear h
  by_cases c : i < 0
  · clear h0
    go_enter Try.func28, Try.ntmps28
    go_wp2
    go_ret
    exact ⟨rfl, rfl⟩
  · have d : (sd.length : Int) ≤ i := by omega
    clear h0
    go_enter Try.func28, Try.ntmps28
    go_wp2
    go_ret
    exact ⟨rfl, rfl⟩

theorem read_r_no {w : World} {base g ga gs ca cs : Nat} {real skew : Int} {ap sd : List Int} (h : CK 36 w base g ga gs ca cs real skew ap sd) (i : Int) (h0 : ¬ (0 ≤ i ∧ i < sd.length)) :
    Calls Try.prog 29 #[.pointer (some ⟨g, 0, none⟩), .int .i64 i] w fun e w' => e = .returned (.int .i64 0) ∧ w = w' := by
  have hc3 : w.cell? ⟨g, 3, none⟩ = some (.slice (some ⟨gs, 0, none⟩) sd.length cs) := cell_at h.blk 3 rfl
  clear h
  by_cases c : i < 0
  · clear h0
    go_enter Try.func29, Try.ntmps29
    go_wp2
    go_ret
    exact ⟨rfl, rfl⟩
  · have d : (sd.length : Int) ≤ i := by omega
    clear h0
    go_enter Try.func29, Try.ntmps29
    go_wp2
    go_ret
    exact ⟨rfl, rfl⟩

set_option maxHeartbeats 2000000 in
theorem shift_r {w : World} {base g ga gs ca cs : Nat} {real skew : Int} {ap sd : List Int} (h : CK 36 w base g ga gs ca cs real skew ap sd) (i by_ : Int) (hl : ap.length = sd.length) (h0 : 0 ≤ i) (h1 : i < sd.length) (k0 : 0 ≤ skew) (k1 : skew ≤ 1000) :
    Calls Try.prog 28 #[.pointer (some ⟨g, 0, none⟩), .int .i64 i, .int .i64 by_] w fun e w' => e = .returned (.int .i64 0) ∧ CK 36 w' base g ga gs ca cs real skew (ap.set i.toNat (shB skew by_)) sd ∧ Only (Own3 g ga gs) w w' := by
  have hc1 : w.cell? ⟨g, 1, none⟩ = some (.int .i64 skew) := cell_at h.blk 1 rfl
  have hc2 : w.cell? ⟨g, 2, none⟩ = some (.slice (some ⟨ga, 0, none⟩) ap.length ca) := cell_at h.blk 2 rfl
  have hc3 : w.cell? ⟨g, 3, none⟩ = some (.slice (some ⟨gs, 0, none⟩) sd.length cs) := cell_at h.blk 3 rfl
  have h2 : i < ap.length := by omega
  obtain ⟨ha, hfa⟩ := h.cellA i h0 h2
  have H3 := Lib.hid (h.setA i (shB skew by_))
  clear h hl
  have hb : (skew < by_ ∧ shB skew by_ = skew) ∨ (¬ skew < by_ ∧ by_ < -skew ∧ shB skew by_ = -skew) ∨ (¬ skew < by_ ∧ ¬ by_ < -skew ∧ shB skew by_ = by_) := by
    unfold shB
    have e1 := mx_cases by_ (-skew)
    have e2 := mn_cases (mx by_ (-skew)) skew
    omega
  rcases hb with ⟨b1, b2⟩ | ⟨b1, b2, b3⟩ | ⟨b1, b2, b3⟩
  · rw [b2] at H3
    have hno : ¬ skew < -skew := by omega
    have HE := Lib.hid b2
    clear b2
    go_enter Try.func28, Try.ntmps28
    go_wp2
    go_ret
    exact ⟨rfl, by rw [HE.out]; exact H3.out, (Only.refl (Own3 g ga gs) w).setCell (.inl (.inr (.inl rfl))) _⟩
  · rw [b3] at H3
    have HE := Lib.hid b3
    clear b3
    go_enter Try.func28, Try.ntmps28
    go_wp2
    go_ret
    exact ⟨rfl, by rw [HE.out]; exact H3.out, (Only.refl (Own3 g ga gs) w).setCell (.inl (.inr (.inl rfl))) _⟩
  · rw [b3] at H3
    have HE := Lib.hid b3
    clear b3
    go_enter Try.func28, Try.ntmps28
    go_wp2
    go_ret
    exact ⟨rfl, by rw [HE.out]; exact H3.out, (Only.refl (Own3 g ga gs) w).setCell (.inl (.inr (.inl rfl))) _⟩

set_option maxHeartbeats 2000000 in
theorem read_r {w : World} {base g ga gs ca cs : Nat} {real skew : Int} {ap sd : List Int} (h : CK 36 w base g ga gs ca cs real skew ap sd) (i : Int) (hl : ap.length = sd.length) (h0 : 0 ≤ i) (h1 : i < sd.length) :
    Calls Try.prog 29 #[.pointer (some ⟨g, 0, none⟩), .int .i64 i] w fun e w' => e = .returned (.int .i64 (says real ap sd i)) ∧ CK 36 w' base g ga gs ca cs real skew ap (sd.set i.toNat (says real ap sd i)) ∧ Only (Own3 g ga gs) w w' := by
  have hc0 : w.cell? ⟨g, 0, none⟩ = some (.int .i64 real) := cell_at h.blk 0 rfl
  have hc2 : w.cell? ⟨g, 2, none⟩ = some (.slice (some ⟨ga, 0, none⟩) ap.length ca) := cell_at h.blk 2 rfl
  have hc3 : w.cell? ⟨g, 3, none⟩ = some (.slice (some ⟨gs, 0, none⟩) sd.length cs) := cell_at h.blk 3 rfl
  have h2 : i < ap.length := by omega
  obtain ⟨ha, _⟩ := h.cellA i h0 h2
  obtain ⟨hs, hfs⟩ := h.cellS i h0 h1
  obtain ⟨x, hx⟩ : ∃ x, x = rd sd i := ⟨_, rfl⟩
  obtain ⟨y, hy⟩ : ∃ y, y = rd ap i := ⟨_, rfl⟩
  rw [← hx] at hs
  rw [← hy] at ha
  have hw := wrap_i64 (real + y)
  by_cases hc : x < cl (wrap64 (real + y))
  · have HE := Lib.hid (show says real ap sd i = cl (wrap64 (real + y)) by unfold says; rw [← hx, ← hy]; unfold mx; rw [if_pos hc])
    have h3 := h.setS i (cl (wrap64 (real + y)))
    have hc3' : ∀ m, ((w.drewN m).setCell ⟨gs, i.toNat, none⟩ (.int .i64 (cl (wrap64 (real + y))))).cell? ⟨g, 3, none⟩ = some (.slice (some ⟨gs, 0, none⟩) sd.length cs) := fun m => by
      have := cell_at ((h.drewN m).setS i (cl (wrap64 (real + y)))).blk 3 rfl
      simpa using this
    have H3 := Lib.hid (fun m => (h.drewN m).setS i (cl (wrap64 (real + y))))
    clear h hl h3 hx hy
    go_enter Try.func29, Try.ntmps29
    go_wp2
    go_quiet ((go_at_call 35; exact Calls.quiet_of_same (clamp_r _ _)))
    go_wp2
    go_ret
    rw [HE.out]
    exact ⟨rfl, H3.out _, ((Only.refl (Own3 g ga gs) w).drewN _).setCell (.inl (.inr (.inr rfl))) _⟩
  · have HE := Lib.hid (show says real ap sd i = x by unfold says; rw [← hx, ← hy]; unfold mx; rw [if_neg hc])
    have H3 : Hid (CK 36 w base g ga gs ca cs real skew ap (sd.set i.toNat x)) := Lib.hid (by
      have : sd.set i.toNat x = sd := by
        rw [hx]; unfold rd
        rw [List.getD_eq_getElem?_getD]
        apply List.ext_getElem?
        intro j
        by_cases hj : j = i.toNat
        · subst hj
          rw [List.getElem?_set_self (by omega)]
          rw [List.getElem?_eq_getElem (by omega)]; rfl
        · rw [List.getElem?_set_ne (fun e => hj e.symm)]
      rw [this]; exact h)
    clear h hl hx hy
    go_enter Try.func29, Try.ntmps29
    go_wp2
    go_quiet ((go_at_call 35; exact Calls.quiet_of_same (clamp_r _ _)))
    go_wp2
    go_ret
    rw [HE.out]
    exact ⟨rfl, H3.out.drewN _, (Only.refl (Own3 g ga gs) w).drewN _⟩

theorem info3 : (Try.prog.info? 3).map (fun i => (i.zero, i.size, i.bytes)) = some (some (.int .i64 0), 1, 8) := by kernel_rfl

theorem new_no (p b : Int) (w : World) (h : ¬ (1 ≤ p ∧ p ≤ 64 ∧ 0 ≤ b ∧ b ≤ 1000)) :
    Calls Try.prog 8 #[.int .i64 p, .int .i64 b] w fun e w' => e = .returned (.tuple #[.pointer none, .int .i64 2]) ∧ w = w' := by
  have hd : p < 1 ∨ ¬ p < 1 ∧ 64 < p ∨ ¬ p < 1 ∧ ¬ 64 < p ∧ b < 0 ∨ ¬ p < 1 ∧ ¬ 64 < p ∧ ¬ b < 0 ∧ 1000 < b := by omega
  clear h
  rcases hd with h | ⟨h1, h⟩ | ⟨h1, h2, h⟩ | ⟨h1, h2, h3, h⟩
  all_goals
    go_enter Try.func8, Try.ntmps8
    go_wp2
    go_ret2
    exact ⟨rfl, rfl⟩

theorem new_r_no (p b : Int) (w : World) (h : ¬ (1 ≤ p ∧ p ≤ 64 ∧ 0 ≤ b ∧ b ≤ 1000)) :
    Calls Try.prog 9 #[.int .i64 p, .int .i64 b] w fun e w' => e = .returned (.tuple #[.pointer none, .bool false]) ∧ w = w' := by
  have hd : p < 1 ∨ ¬ p < 1 ∧ 64 < p ∨ ¬ p < 1 ∧ ¬ 64 < p ∧ b < 0 ∨ ¬ p < 1 ∧ ¬ 64 < p ∧ ¬ b < 0 ∧ 1000 < b := by omega
  clear h
  rcases hd with h | ⟨h1, h⟩ | ⟨h1, h2, h⟩ | ⟨h1, h2, h3, h⟩
  all_goals
    go_enter Try.func9, Try.ntmps9
    go_wp2
    go_ret2
    exact ⟨rfl, rfl⟩

theorem made (p : Int) (h1 : 1 ≤ p) (h2 : p ≤ 64) (w : World) :
    (Instr.makeSlice 34 (.int .i64 p) (.int .i64 p)).run Try.prog w = .ok (.slice (some ⟨w.heap.size, 0, none⟩) p.toNat p.toNat) (w.alloc (.cells (madeCells #[.int .i64 0] p.toNat) 3)) := by
  obtain ⟨i0, hi, hzz⟩ := Option.map_eq_some_iff.1 info3
  simp only [Prod.mk.injEq] at hzz
  obtain ⟨hz0, hz1, hz2⟩ := hzz
  have h := run_make (P := Try.prog) (w := w) 34 3 i0 (.int .i64 0) Try.underlying34 hi hz0 .i64 .i64 p p (by omega) (by omega) (by rw [hz2]; omega) (by omega)
  rw [hz1, Nat.mul_one] at h
  exact h

/-- A new row of noughts. -/
theorem made_row (W : World) (base : Nat) (p : Int) (hb : base ≤ W.heap.size) (h2 : p ≤ 64) (g : Nat) (hg : g = W.heap.size) : Kd.R (Kd.int .i64) 3 (W.alloc (.cells (madeCells #[.int .i64 0] p.toNat) 3)) base (fun k => k = g) (.slice (some ⟨g, 0, none⟩) (List.replicate p.toNat (0 : Int)).length p.toNat) (List.replicate p.toNat 0) := by
  subst hg
  have h := own_made_of' (enc := Value.int .i64) (d := (0 : Int)) W base 3 p.toNat hb (by omega)
  have := Kd.R_of_own (enc := Value.int .i64) (h1 := fun _ => rfl) (ok := fun k => k = W.heap.size) (v := .slice (some ⟨W.heap.size, 0, none⟩) p.toNat p.toNat) h (fun k hk => by simpa [Value.ownBlock] using hk.symm)
  rw [List.length_replicate]
  exact this

/-- What New leaves. -/
def Made (T : TypeId) (p b : Int) (u : Value) (w : World) (e : Ending) (w' : World) : Prop :=
  ∃ g ga gs ca cs, e = .returned (.tuple #[.pointer (some ⟨g, 0, none⟩), u]) ∧ CK T w' w.heap.size g ga gs ca cs 0 b (List.replicate p.toNat 0) (List.replicate p.toNat 0) ∧ Only (fun _ => False) w w'

/-- New clocks, whichever row was made first. -/
theorem new_ck (T : TypeId) (w : World) (p b : Int) (h1 : 1 ≤ p) (h2 : p ≤ 64) (x y : Nat) (hxy : x = w.heap.size ∧ y = w.heap.size + 1 ∨ x = w.heap.size + 1 ∧ y = w.heap.size) :
    CK T (((w.alloc (.cells (madeCells #[.int .i64 0] p.toNat) 3)).alloc (.cells (madeCells #[.int .i64 0] p.toNat) 3)).alloc (.cells #[.int .i64 0, .int .i64 b, .slice (some ⟨x, 0, none⟩) p.toNat p.toNat, .slice (some ⟨y, 0, none⟩) p.toNat p.toNat] T)) w.heap.size (w.heap.size + 1 + 1) x y p.toNat p.toNat 0 b (List.replicate p.toNat 0) (List.replicate p.toNat 0) := by
  have r0 := Kd.R_alloc (Kd.R_alloc (made_row w w.heap.size p (Nat.le_refl _) h2 w.heap.size rfl) (.cells (madeCells #[.int .i64 0] p.toNat) 3)) (.cells #[.int .i64 0, .int .i64 b, .slice (some ⟨x, 0, none⟩) p.toNat p.toNat, .slice (some ⟨y, 0, none⟩) p.toNat p.toNat] T)
  have r1 := Kd.R_alloc (made_row (w.alloc (.cells (madeCells #[.int .i64 0] p.toNat) 3)) w.heap.size p (by simp) h2 (w.heap.size + 1) (by simp)) (.cells #[.int .i64 0, .int .i64 b, .slice (some ⟨x, 0, none⟩) p.toNat p.toNat, .slice (some ⟨y, 0, none⟩) p.toNat p.toNat] T)
  have hb := heap_alloc_new ((w.alloc (.cells (madeCells #[.int .i64 0] p.toNat) 3)).alloc (.cells (madeCells #[.int .i64 0] p.toNat) 3)) (.cells #[.int .i64 0, .int .i64 b, .slice (some ⟨x, 0, none⟩) p.toNat p.toNat, .slice (some ⟨y, 0, none⟩) p.toNat p.toNat] T)
  rcases hxy with ⟨rfl, rfl⟩ | ⟨rfl, rfl⟩
  · refine ⟨?_, r0, r1, by omega, by omega, by omega, by omega, by omega, by omega⟩
    simpa using hb
  · refine ⟨?_, r1, r0, by omega, by omega, by omega, by omega, by omega, by omega⟩
    simpa using hb

set_option maxHeartbeats 2000000 in
theorem new_p (p b : Int) (w : World) (h1 : 1 ≤ p) (h2 : p ≤ 64) (h3 : 0 ≤ b) (h4 : b ≤ 1000) :
    Calls Try.prog 8 #[.int .i64 p, .int .i64 b] w (Made 54 p b (.int .i64 0) w) := by
  have hmk := made p h1 h2
  go_enter Try.func8, Try.ntmps8
  go_wp2
  go_region
  all_goals go_wp2
  all_goals go_ret2
  · exact ⟨_, _, _, _, _, rfl, (new_ck 54 w p b h1 h2 _ _ (.inl ⟨rfl, rfl⟩)).drew, (((((Only.refl _ w).alloc _).alloc _).alloc _)).drew⟩
  · exact ⟨_, _, _, _, _, rfl, (new_ck 54 w p b h1 h2 _ _ (.inr ⟨rfl, rfl⟩)).drew, (((((Only.refl _ w).alloc _).alloc _).alloc _)).drew⟩

set_option maxHeartbeats 4000000 in
theorem new_r (p b : Int) (w : World) (h1 : 1 ≤ p) (h2 : p ≤ 64) (h3 : 0 ≤ b) (h4 : b ≤ 1000) :
    Calls Try.prog 9 #[.int .i64 p, .int .i64 b] w (Made 36 p b (.bool true) w) := by
  go_enter Try.func9, Try.ntmps9
  go_wp2
  obtain ⟨g, hg⟩ : ∃ g, g = w.heap.size := ⟨_, rfl⟩
  rw [← hg]
  have HB0 : Hid ((w.alloc (.cells #[.int .i64 0, .int .i64 b, .slice none 0 0, .slice none 0 0] 36)).heap[g]? = some (.cells #[.int .i64 0, .int .i64 b, .slice none 0 0, .slice none 0 0] 36 (0, 0))) := Lib.hid (by rw [hg]; exact heap_alloc_new w _)
  have HG := Lib.hid hg
  clear hg
  go_loopw [7] (fun vi wr => ∃ (i : Nat) (va vs : Value), vi = .int .i64 i ∧ (i : Int) ≤ p ∧ Hid (wr.heap[g]? = some (.cells #[.int .i64 0, .int .i64 b, va, vs] 36 (0, 0))) ∧ Hid (Kd.R (Kd.int .i64) 3 wr w.heap.size (fun _ => True) va (List.replicate i 0)) ∧ Hid (Kd.R (Kd.int .i64) 3 wr w.heap.size (fun _ => True) vs (List.replicate i 0)) ∧ Hid (NeRow va vs) ∧ Hid (Below w.heap.size w wr)) (fun vi _ => (p - intOf vi).toNat)
  case atStart => exact ⟨0, _, _, rfl, by omega, HB0, Lib.hid (Kd.R_nil _ _ _ _ _), Lib.hid (Kd.R_nil _ _ _ _ _), Lib.hid (ne_nil _), Lib.hid (below_alloc (Below.refl _ _) _)⟩
  case round =>
    obtain ⟨i, va, vs, rfl, hip, HBK, HA, HS, HNE, HB⟩ := hrel
    have hc2 : wr.cell? ⟨g, 2, none⟩ = some va := cell_at HBK.out 2 rfl
    have hc3 : wr.cell? ⟨g, 3, none⟩ = some vs := cell_at HBK.out 3 rfl
    have hf2 : wr.frozen? ⟨g, 2, none⟩ = false := blk_frozen HBK.out 2
    by_cases hlt : (i : Int) < p
    · have hgw : w.heap.size ≤ (⟨g, 2, none⟩ : Addr).block := by have := HG.out; simp; omega
      have hgw3 : w.heap.size ≤ (⟨g, 3, none⟩ : Addr).block := by have := HG.out; simp; omega
      have HREP := Lib.hid (show List.replicate i (0 : Int) ++ [0] = List.replicate (i + 1) 0 from List.replicate_succ'.symm)
      go_wp2_with (first | ((with_reducible refine gate_builtin (b := .append) (xs := #[.tmp 34, .tmp 35]) rfl ?_); at_builtin; refine Kd.R_append (Kd.int .i64) (w0 := w) w.heap.size rfl (.tmp 34) (.tmp 35) 34 3 (.int .i64 0) 8 rfl Try.underlying34 info3 rfl (by decide) (by omega) va (List.replicate i 0) 0 [.int .i64 0] (fun _ => True) (fun _ => False) rfl rfl ?aP (fun _ hk => hk.elim) ?aF ?aO ?aB ?aS ?aL ?_; (case aP => exact rfl); (case aF => exact (fun _ _ => trivial)); (case aO => exact HA.out); (case aB => exact HB.out); (case aS => exact HB.out.size); (case aL => simp; omega); intro v1 w1 ho1 hb1 hg1 hat1; obtain ⟨A1, c1, e1⟩ := Kd.R_slice ho1; rw [HREP.out, List.length_replicate] at e1; rw [HREP.out] at ho1; subst e1; have HO1 := Lib.hid ho1; have HB1 := Lib.hid hb1; have HAT1 := Lib.hid hat1; have HBK1 : Hid (w1.heap[g]? = some (.cells #[.int .i64 0, .int .i64 b, va, vs] 36 (0, 0))) := Lib.hid (blk_grown HBK.out hg1 (Kd.R_ne HA.out HBK.out (by decide))); have HS1 : Hid (Kd.R (Kd.int .i64) 3 w1 w.heap.size (fun _ => True) vs (List.replicate i 0)) := Lib.hid (Kd.R_grown2 HS.out rfl hg1 (fun k hk e => HNE.out k hk e.symm)); have HNE1 : Hid (NeRow (.slice A1 (i + 1) c1) vs) := Lib.hid (by obtain ⟨_, ow⟩ := Kd.R_own HS.out; exact ne_append HNE.out hat1 ow); have hc2' : w1.cell? ⟨g, 2, none⟩ = some va := cell_at HBK1.out 2 rfl; have hc3' : w1.cell? ⟨g, 3, none⟩ = some vs := cell_at HBK1.out 3 rfl; have hf2' : w1.frozen? ⟨g, 2, none⟩ = false := blk_frozen HBK1.out 2; have hf3' : w1.frozen? ⟨g, 3, none⟩ = false := blk_frozen HBK1.out 3; clear ho1 hb1 hg1 hat1) | ((with_reducible refine gate_builtin (b := .append) (xs := #[.tmp 43, .tmp 44]) rfl ?_); at_builtin; refine Kd.R_append (Kd.int .i64) (w0 := w) w.heap.size rfl (.tmp 43) (.tmp 44) 34 3 (.int .i64 0) 8 rfl Try.underlying34 info3 rfl (by decide) (by omega) vs (List.replicate i 0) 0 [.int .i64 0] (fun _ => True) (fun _ => False) rfl (by simp [World.setCell]; rfl) ?bP (fun _ hk => hk.elim) ?bF ?bO ?bB ?bS ?bL ?_; (case bP => exact rfl); (case bF => exact (fun _ _ => trivial)); (case bO => exact (Kd.R_set HS1.out HBK1.out (by decide) 2 _)); (case bB => exact (HB1.out.setCell hgw _)); (case bS => exact (HB1.out.setCell hgw _).size); (case bL => simp; omega); intro v2 w2 ho2 hb2 hg2 hat2; obtain ⟨A2, c2, e2⟩ := Kd.R_slice ho2; rw [HREP.out, List.length_replicate] at e2; rw [HREP.out] at ho2; subst e2; have HO2 := Lib.hid ho2; have HB2 := Lib.hid hb2; have HBK2 : Hid (w2.heap[g]? = some (.cells #[.int .i64 0, .int .i64 b, .slice A1 (i + 1) c1, vs] 36 (0, 0))) := Lib.hid (blk_grown (blk_set HBK1.out 2 _) hg2 (Kd.R_ne HS1.out HBK1.out (by decide))); have HA2 : Hid (Kd.R (Kd.int .i64) 3 w2 w.heap.size (fun _ => True) (.slice A1 (i + 1) c1) (List.replicate (i + 1) 0)) := Lib.hid (Kd.R_grown2 (Kd.R_set HO1.out HBK1.out (by decide) 2 _) rfl hg2 (fun k hk e => HNE1.out k e.symm hk)); have HNE2 : Hid (NeRow (.slice A1 (i + 1) c1) (.slice A2 (i + 1) c2)) := Lib.hid (by obtain ⟨_, ow⟩ := Kd.R_own (Kd.R_set HO1.out HBK1.out (by decide) 2 (.slice A1 (i + 1) c1)); exact ne_append' HNE1.out hat2 ow); have hc2'' : w2.cell? ⟨g, 2, none⟩ = some (.slice A1 (i + 1) c1) := cell_at HBK2.out 2 rfl; have hc3'' : w2.cell? ⟨g, 3, none⟩ = some vs := cell_at HBK2.out 3 rfl; have hf3'' : w2.frozen? ⟨g, 3, none⟩ = false := blk_frozen HBK2.out 3; clear ho2 hb2 hg2 hat2))
      go_roundw
      case rel => exact ⟨i + 1, _, _, by go_num, by omega, Lib.hid (blk_set HBK2.out 3 _), Lib.hid (Kd.R_set HA2.out HBK2.out (by decide) 3 _), Lib.hid (Kd.R_set HO2.out HBK2.out (by decide) 3 _), HNE2, Lib.hid (HB2.out.setCell hgw3 _)⟩
      case measure => simp [intOf]; omega
    · obtain ⟨A1, c1, e1⟩ := Kd.R_slice HA.out
      obtain ⟨A2, c2, e2⟩ := Kd.R_slice HS.out
      subst e1 e2
      obtain ⟨ga, rfl, hb1, _⟩ := R_some HA.out (by simp; omega)
      obtain ⟨gs, rfl, hb2, _⟩ := R_some HS.out (by simp; omega)
      have hi : i = p.toNat := by omega
      have HCK : Hid (CK 36 wr w.heap.size g ga gs c1 c2 0 b (List.replicate p.toNat 0) (List.replicate p.toNat 0)) := Lib.hid (by
        have e1 : g ≠ ga := fun e => Kd.R_ne HA.out HBK.out (by decide) (by simp [Value.ownBlock, e])
        have e2 : g ≠ gs := fun e => Kd.R_ne HS.out HBK.out (by decide) (by simp [Value.ownBlock, e])
        have e3 : ga ≠ gs := fun e => HNE.out ga (by simp [Value.ownBlock]) (by simp [Value.ownBlock, e])
        rw [← hi]
        exact ⟨HBK.out, Kd.R_mono (Kd.R_tight rfl HA.out) (fun k hk => by simpa [Value.ownBlock] using hk), Kd.R_mono (Kd.R_tight rfl HS.out) (fun k hk => by simpa [Value.ownBlock] using hk), e1, e2, e3, by rw [HG.out]; exact Nat.le_refl _, hb1, hb2⟩)
      clear hi
      go_wp2
      go_ret2
      exact ⟨g, ga, gs, c1, c2, rfl, HCK.out, Only.of_below HB.out⟩

end Go.Proofs.Ytpophcmdhpechaa.Clk

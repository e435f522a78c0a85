/- The contracts of clock's law functions: a deed done in both, the chapter's example, nil clocks. -/
import Derived.Test.YtpophcmdhpechaaClk
set_option linter.unusedVariables false
set_option linter.unusedSimpArgs false
namespace Go.Proofs.Ytpophcmdhpechaa.Clk
open Go.RowKit Go.Proofs.Ytpophcmdhpechaa.Base Go.Proofs.YtpophcmdhpechaaW.PrintWords Go.Proofs.YtpophcmdhpechaaW.PrintMore
attribute [local go_sem] max2_mx min2_mn max_two min_two max_three min_three max_four min_four

/-- The program's clocks and the reference's, apart, that hold the same. -/
structure Two (w : World) (base g ga gs ca cs h ha hs da ds : Nat) (real skew : Int) (ap sd : List Int) : Prop where
  p : CK 54 w base g ga gs ca cs real skew ap sd
  r : CK 36 w base h ha hs da ds real skew ap sd
  far : ∀ i, Own3 g ga gs i → ¬ Own3 h ha hs i
  len : ap.length = sd.length
  k0 : 0 ≤ skew
  k1 : skew ≤ 1000

theorem CK.lt {T : TypeId} {w : World} {base g ga gs ca cs : Nat} {real skew : Int} {ap sd : List Int} (h : CK T w base g ga gs ca cs real skew ap sd) : ∀ i, Own3 g ga gs i → i < w.heap.size ∧ base ≤ i := by
  intro i hi
  rcases hi with rfl | rfl | rfl
  · exact ⟨blk_lt h.blk, h.b1⟩
  · exact ⟨Kd.R_lt h.ra _ (by simp [Value.ownBlock]), h.b2⟩
  · exact ⟨Kd.R_lt h.rs _ (by simp [Value.ownBlock]), h.b3⟩

/-- What a deed leaves. -/
def Done (base g ga gs ca cs h ha hs da ds : Nat) (skew : Int) (n : Nat) (w : World) (e : Ending) (w' : World) : Prop :=
  ∃ real ap sd, e = .returned (.bool true) ∧ Two w' base g ga gs ca cs h ha hs da ds real skew ap sd ∧ sd.length = n ∧ Only (fun i => base ≤ i) w w'

theorem skew_set (xs : List Int) (i : Nat) (x : Int) : (xs.set i x).length = xs.length := by simp

set_option maxHeartbeats 4000000 in
theorem does_0 {w : World} {base g ga gs ca cs h ha hs da ds : Nat} {real skew : Int} {ap sd : List Int} (H : Two w base g ga gs ca cs h ha hs da ds real skew ap sd) (nd n : Int) :
    Calls Try.prog 10 #[.pointer (some ⟨g, 0, none⟩), .pointer (some ⟨h, 0, none⟩), .agg #[.int .i64 0, .int .i64 nd, .int .i64 n]] w (Done base g ga gs ca cs h ha hs da ds skew sd.length w) := by
  have HT := Lib.hid H
  have HPA := Lib.hid (H.p.keep (S := fun _ => False) ((Only.refl _ w).alloc (.cells #[.int .i64 0, .int .i64 nd, .int .i64 n] 32)) (fun _ h => h.elim))
  have HRA := Lib.hid (H.r.keep (S := fun _ => False) ((Only.refl _ w).alloc (.cells #[.int .i64 0, .int .i64 nd, .int .i64 n] 32)) (fun _ h => h.elim))
  have HN1 : Hid (¬ Own3 g ga gs w.heap.size) := Lib.hid (fun h1 => by have := (H.p.lt _ h1).1; omega)
  have HN2 : Hid (¬ Own3 h ha hs w.heap.size) := Lib.hid (fun h1 => by have := (H.r.lt _ h1).1; omega)
  have HC1 := Lib.hid (box_cell w #[.int .i64 0, .int .i64 nd, .int .i64 n] 32 1 rfl)
  have HC2 := Lib.hid (box_cell w #[.int .i64 0, .int .i64 nd, .int .i64 n] 32 2 rfl)
  clear H
  go_enter Try.func10, Try.ntmps10
  go_wp2_with (first | (go_at_call 13; refine (tick_p HPA.out n).mono ?_; rintro e w1 ⟨rfl, hp1, ho1⟩; have HP1 := Lib.hid hp1; have HO1 := Lib.hid ho1; have HR1 := Lib.hid (HRA.out.keep ho1 HT.out.far); have hcb1 : w1.cell? ⟨w.heap.size, 2, none⟩ = some (.int .i64 n) := ho1.cell HC2.out HN1.out; clear hp1 ho1) | (go_at_call 27; refine (tick_r HR1.out n).mono ?_; rintro e w2 ⟨rfl, hr2, ho2⟩; have HR2 := Lib.hid hr2; have HO2 := Lib.hid ho2; have HP2 := Lib.hid (HP1.out.keep ho2 (fun i h1 h2 => HT.out.far i h2 h1)); have hcr : w2.cell? ⟨h, 0, none⟩ = some (.int .i64 (add real n)) := cell_at hr2.blk 0 rfl; clear hr2 ho2))
  go_quiet ((go_at_call 14; exact Calls.quiet_of_same ((real_p (HP2.out.drewN _)).mono fun _ _ ⟨h1, h2⟩ => ⟨h1, h2.symm⟩)))
  go_wp2
  go_ret
  refine ⟨_, _, _, rfl, ⟨HP2.out.drewN _, HR2.out.drewN _, HT.out.far, HT.out.len, HT.out.k0, HT.out.k1⟩, rfl, ?_⟩
  exact ((((Only.refl (fun i => base ≤ i) w).alloc _).then_ HO1.out (fun i h1 => .inl (HT.out.p.lt i h1).2)).then_ HO2.out (fun i h1 => .inl (HT.out.r.lt i h1).2)).drewN _

set_option maxHeartbeats 4000000 in
theorem does_1 {w : World} {base g ga gs ca cs h ha hs da ds : Nat} {real skew : Int} {ap sd : List Int} (H : Two w base g ga gs ca cs h ha hs da ds real skew ap sd) (nd n : Int) (h0 : 0 ≤ nd) (h1 : nd < sd.length) :
    Calls Try.prog 10 #[.pointer (some ⟨g, 0, none⟩), .pointer (some ⟨h, 0, none⟩), .agg #[.int .i64 1, .int .i64 nd, .int .i64 n]] w (Done base g ga gs ca cs h ha hs da ds skew sd.length w) := by
  have HT := Lib.hid H
  have HPA := Lib.hid (H.p.keep (S := fun _ => False) (((Only.refl _ w).alloc (.cells #[.int .i64 1, .int .i64 nd, .int .i64 n] 32)).drew) (fun _ h => h.elim))
  have HRA := Lib.hid (H.r.keep (S := fun _ => False) (((Only.refl _ w).alloc (.cells #[.int .i64 1, .int .i64 nd, .int .i64 n] 32)).drew) (fun _ h => h.elim))
  have HN1 : Hid (¬ Own3 g ga gs w.heap.size) := Lib.hid (fun h1 => by have := (H.p.lt _ h1).1; omega)
  have HN2 : Hid (¬ Own3 h ha hs w.heap.size) := Lib.hid (fun h1 => by have := (H.r.lt _ h1).1; omega)
  have hc1 : (w.alloc (.cells #[.int .i64 1, .int .i64 nd, .int .i64 n] 32)).cell? ⟨w.heap.size, 1, none⟩ = some (.int .i64 nd) := box_cell w #[.int .i64 1, .int .i64 nd, .int .i64 n] 32 1 rfl
  have hc2 : (w.alloc (.cells #[.int .i64 1, .int .i64 nd, .int .i64 n] 32)).cell? ⟨w.heap.size, 2, none⟩ = some (.int .i64 n) := box_cell w #[.int .i64 1, .int .i64 nd, .int .i64 n] 32 2 rfl
  have HC1 : Hid ((w.alloc (.cells #[.int .i64 1, .int .i64 nd, .int .i64 n] 32)).drew.cell? ⟨w.heap.size, 1, none⟩ = some (.int .i64 nd)) := Lib.hid hc1
  have HC2 : Hid ((w.alloc (.cells #[.int .i64 1, .int .i64 nd, .int .i64 n] 32)).drew.cell? ⟨w.heap.size, 2, none⟩ = some (.int .i64 n)) := Lib.hid hc2
  clear H
  go_enter Try.func10, Try.ntmps10
  go_wp2
  go_region_held3 (fun w' => w'.cell? ⟨w.heap.size, 1, none⟩ = some (.int .i64 nd) ∧ w'.cell? ⟨w.heap.size, 2, none⟩ = some (.int .i64 n)) (first | exact ⟨hc1, hc2⟩ | exact ⟨HC1.out, HC2.out⟩ | exact ⟨hca2, hcb2⟩ | exact ⟨hca3, hcb3⟩) (first | (go_at_call 16; refine (shift_p (by exact HPA.out) nd n HT.out.len h0 h1 HT.out.k0 HT.out.k1).mono ?_; rintro e w2 ⟨rfl, hp2, ho2⟩; have HP2 := Lib.hid hp2; have HO2 := Lib.hid ho2; have HR2 := Lib.hid (HRA.out.keep ho2 HT.out.far); have hca2 := ho2.cell HC1.out HN1.out; have hcb2 := ho2.cell HC2.out HN1.out; clear hp2 ho2) | (go_at_call 28; refine (shift_r (by exact HRA.out) nd n HT.out.len h0 h1 HT.out.k0 HT.out.k1).mono ?_; rintro e w2 ⟨rfl, hr2, ho2⟩; have HR2 := Lib.hid hr2; have HO2 := Lib.hid ho2; have HP2 := Lib.hid (HPA.out.keep ho2 (fun i h1 h2 => HT.out.far i h2 h1)); have hca2 := ho2.cell HC1.out HN2.out; have hcb2 := ho2.cell HC2.out HN2.out; clear hr2 ho2) | (go_at_call 28; refine (shift_r (by exact HR2.out) nd n HT.out.len h0 h1 HT.out.k0 HT.out.k1).mono ?_; rintro e w3 ⟨rfl, hr3, ho3⟩; have HR3 := Lib.hid hr3; have HO3 := Lib.hid ho3; have HP3 := Lib.hid (HP2.out.keep ho3 (fun i h1 h2 => HT.out.far i h2 h1)); have hca3 := ho3.cell hca2 HN2.out; have hcb3 := ho3.cell hcb2 HN2.out; clear hr3 ho3) | (go_at_call 16; refine (shift_p (by exact HP2.out) nd n HT.out.len h0 h1 HT.out.k0 HT.out.k1).mono ?_; rintro e w3 ⟨rfl, hp3, ho3⟩; have HP3 := Lib.hid hp3; have HO3 := Lib.hid ho3; have HR3 := Lib.hid (HR2.out.keep ho3 HT.out.far); have hca3 := ho3.cell hca2 HN1.out; have hcb3 := ho3.cell hcb2 HN1.out; clear hp3 ho3))
  all_goals
    go_wp2
    go_ret
  · refine ⟨_, _, _, rfl, ⟨HP3.out, HR3.out, HT.out.far, by rw [skew_set]; exact HT.out.len, HT.out.k0, HT.out.k1⟩, rfl, ?_⟩
    exact ((((Only.refl (fun i => base ≤ i) w).alloc _).drew).then_ HO2.out (fun i h1 => .inl (HT.out.p.lt i h1).2)).then_ HO3.out (fun i h1 => .inl (HT.out.r.lt i h1).2)

set_option maxHeartbeats 4000000 in
theorem does_2 {w : World} {base g ga gs ca cs h ha hs da ds : Nat} {real skew : Int} {ap sd : List Int} (H : Two w base g ga gs ca cs h ha hs da ds real skew ap sd) (nd n : Int) (h0 : 0 ≤ nd) (h1 : nd < sd.length) :
    Calls Try.prog 10 #[.pointer (some ⟨g, 0, none⟩), .pointer (some ⟨h, 0, none⟩), .agg #[.int .i64 2, .int .i64 nd, .int .i64 n]] w (Done base g ga gs ca cs h ha hs da ds skew sd.length w) := by
  have HT := Lib.hid H
  have HPA := Lib.hid (H.p.keep (S := fun _ => False) (((Only.refl _ w).alloc (.cells #[.int .i64 2, .int .i64 nd, .int .i64 n] 32)).drew) (fun _ h => h.elim))
  have HRA := Lib.hid (H.r.keep (S := fun _ => False) (((Only.refl _ w).alloc (.cells #[.int .i64 2, .int .i64 nd, .int .i64 n] 32)).drew) (fun _ h => h.elim))
  have HN1 : Hid (¬ Own3 g ga gs w.heap.size) := Lib.hid (fun h1 => by have := (H.p.lt _ h1).1; omega)
  have HN2 : Hid (¬ Own3 h ha hs w.heap.size) := Lib.hid (fun h1 => by have := (H.r.lt _ h1).1; omega)
  have hc1 : (w.alloc (.cells #[.int .i64 2, .int .i64 nd, .int .i64 n] 32)).cell? ⟨w.heap.size, 1, none⟩ = some (.int .i64 nd) := box_cell w #[.int .i64 2, .int .i64 nd, .int .i64 n] 32 1 rfl
  have hc2 : (w.alloc (.cells #[.int .i64 2, .int .i64 nd, .int .i64 n] 32)).cell? ⟨w.heap.size, 2, none⟩ = some (.int .i64 n) := box_cell w #[.int .i64 2, .int .i64 nd, .int .i64 n] 32 2 rfl
  have HC1 : Hid ((w.alloc (.cells #[.int .i64 2, .int .i64 nd, .int .i64 n] 32)).drew.cell? ⟨w.heap.size, 1, none⟩ = some (.int .i64 nd)) := Lib.hid hc1
  have HC2 : Hid ((w.alloc (.cells #[.int .i64 2, .int .i64 nd, .int .i64 n] 32)).drew.cell? ⟨w.heap.size, 2, none⟩ = some (.int .i64 n)) := Lib.hid hc2
  clear H
  go_enter Try.func10, Try.ntmps10
  go_wp2
  go_region_held3 (fun w' => w'.cell? ⟨w.heap.size, 1, none⟩ = some (.int .i64 nd) ∧ w'.cell? ⟨w.heap.size, 2, none⟩ = some (.int .i64 n)) (first | exact ⟨hc1, hc2⟩ | exact ⟨HC1.out, HC2.out⟩ | exact ⟨hca2, hcb2⟩ | exact ⟨hca3, hcb3⟩) (first | (go_at_call 15; refine (read_p (by exact HPA.out) nd HT.out.len h0 h1).mono ?_; rintro e w2 ⟨rfl, hp2, ho2⟩; have HP2 := Lib.hid hp2; have HO2 := Lib.hid ho2; have HR2 := Lib.hid (HRA.out.keep ho2 HT.out.far); have hca2 := ho2.cell HC1.out HN1.out; have hcb2 := ho2.cell HC2.out HN1.out; clear hp2 ho2) | (go_at_call 29; refine (read_r (by exact HRA.out) nd HT.out.len h0 h1).mono ?_; rintro e w2 ⟨rfl, hr2, ho2⟩; have HR2 := Lib.hid hr2; have HO2 := Lib.hid ho2; have HP2 := Lib.hid (HPA.out.keep ho2 (fun i h1 h2 => HT.out.far i h2 h1)); have hca2 := ho2.cell HC1.out HN2.out; have hcb2 := ho2.cell HC2.out HN2.out; clear hr2 ho2) | (go_at_call 29; refine (read_r (by exact HR2.out) nd HT.out.len h0 h1).mono ?_; rintro e w3 ⟨rfl, hr3, ho3⟩; have HR3 := Lib.hid hr3; have HO3 := Lib.hid ho3; have HP3 := Lib.hid (HP2.out.keep ho3 (fun i h1 h2 => HT.out.far i h2 h1)); have hca3 := ho3.cell hca2 HN2.out; have hcb3 := ho3.cell hcb2 HN2.out; clear hr3 ho3) | (go_at_call 15; refine (read_p (by exact HP2.out) nd HT.out.len h0 h1).mono ?_; rintro e w3 ⟨rfl, hp3, ho3⟩; have HP3 := Lib.hid hp3; have HO3 := Lib.hid ho3; have HR3 := Lib.hid (HR2.out.keep ho3 HT.out.far); have hca3 := ho3.cell hca2 HN1.out; have hcb3 := ho3.cell hcb2 HN1.out; clear hp3 ho3))
  all_goals
    go_wp2
    go_ret
  · refine ⟨_, _, _, rfl, ⟨HP3.out, HR3.out, HT.out.far, by rw [skew_set]; exact HT.out.len, HT.out.k0, HT.out.k1⟩, by rw [skew_set], ?_⟩
    exact ((((Only.refl (fun i => base ≤ i) w).alloc _).drew).then_ HO2.out (fun i h1 => .inl (HT.out.p.lt i h1).2)).then_ HO3.out (fun i h1 => .inl (HT.out.r.lt i h1).2)

set_option maxHeartbeats 4000000 in
theorem does_3 {w : World} {base g ga gs ca cs h ha hs da ds : Nat} {real skew : Int} {ap sd : List Int} (H : Two w base g ga gs ca cs h ha hs da ds real skew ap sd) (nd n : Int) (h0 : 0 ≤ nd) (h1 : nd < sd.length) :
    Calls Try.prog 10 #[.pointer (some ⟨g, 0, none⟩), .pointer (some ⟨h, 0, none⟩), .agg #[.int .i64 3, .int .i64 nd, .int .i64 n]] w (Done base g ga gs ca cs h ha hs da ds skew sd.length w) := by
  have HT := Lib.hid H
  have HPA := Lib.hid (H.p.keep (S := fun _ => False) (((Only.refl _ w).alloc (.cells #[.int .i64 3, .int .i64 nd, .int .i64 n] 32)).drew) (fun _ h => h.elim))
  have HRA := Lib.hid (H.r.keep (S := fun _ => False) (((Only.refl _ w).alloc (.cells #[.int .i64 3, .int .i64 nd, .int .i64 n] 32)).drew) (fun _ h => h.elim))
  have HN1 : Hid (¬ Own3 g ga gs w.heap.size) := Lib.hid (fun h1 => by have := (H.p.lt _ h1).1; omega)
  have HN2 : Hid (¬ Own3 h ha hs w.heap.size) := Lib.hid (fun h1 => by have := (H.r.lt _ h1).1; omega)
  have hc1 : (w.alloc (.cells #[.int .i64 3, .int .i64 nd, .int .i64 n] 32)).cell? ⟨w.heap.size, 1, none⟩ = some (.int .i64 nd) := box_cell w #[.int .i64 3, .int .i64 nd, .int .i64 n] 32 1 rfl
  have hc2 : (w.alloc (.cells #[.int .i64 3, .int .i64 nd, .int .i64 n] 32)).cell? ⟨w.heap.size, 2, none⟩ = some (.int .i64 n) := box_cell w #[.int .i64 3, .int .i64 nd, .int .i64 n] 32 2 rfl
  have HC1 : Hid ((w.alloc (.cells #[.int .i64 3, .int .i64 nd, .int .i64 n] 32)).drew.cell? ⟨w.heap.size, 1, none⟩ = some (.int .i64 nd)) := Lib.hid hc1
  have HC2 : Hid ((w.alloc (.cells #[.int .i64 3, .int .i64 nd, .int .i64 n] 32)).drew.cell? ⟨w.heap.size, 2, none⟩ = some (.int .i64 n)) := Lib.hid hc2
  clear H
  go_enter Try.func10, Try.ntmps10
  go_wp2
  go_region_held3 (fun w' => w'.cell? ⟨w.heap.size, 1, none⟩ = some (.int .i64 nd) ∧ w'.cell? ⟨w.heap.size, 2, none⟩ = some (.int .i64 n)) (first | exact ⟨hc1, hc2⟩ | exact ⟨HC1.out, HC2.out⟩ | exact ⟨hca2, hcb2⟩ | exact ⟨hca3, hcb3⟩) (first | (go_at_call 15; refine (read_p (by exact HPA.out) nd HT.out.len h0 h1).mono ?_; rintro e w2 ⟨rfl, hp2, ho2⟩; have HP2 := Lib.hid hp2; have HO2 := Lib.hid ho2; have HR2 := Lib.hid (HRA.out.keep ho2 HT.out.far); have hca2 := ho2.cell HC1.out HN1.out; have hcb2 := ho2.cell HC2.out HN1.out; clear hp2 ho2) | (go_at_call 29; refine (read_r (by exact HRA.out) nd HT.out.len h0 h1).mono ?_; rintro e w2 ⟨rfl, hr2, ho2⟩; have HR2 := Lib.hid hr2; have HO2 := Lib.hid ho2; have HP2 := Lib.hid (HPA.out.keep ho2 (fun i h1 h2 => HT.out.far i h2 h1)); have hca2 := ho2.cell HC1.out HN2.out; have hcb2 := ho2.cell HC2.out HN2.out; clear hr2 ho2) | (go_at_call 29; refine (read_r (by exact HR2.out) nd HT.out.len h0 h1).mono ?_; rintro e w3 ⟨rfl, hr3, ho3⟩; have HR3 := Lib.hid hr3; have HO3 := Lib.hid ho3; have HP3 := Lib.hid (HP2.out.keep ho3 (fun i h1 h2 => HT.out.far i h2 h1)); have hca3 := ho3.cell hca2 HN2.out; have hcb3 := ho3.cell hcb2 HN2.out; clear hr3 ho3) | (go_at_call 15; refine (read_p (by exact HP2.out) nd HT.out.len h0 h1).mono ?_; rintro e w3 ⟨rfl, hp3, ho3⟩; have HP3 := Lib.hid hp3; have HO3 := Lib.hid ho3; have HR3 := Lib.hid (HR2.out.keep ho3 HT.out.far); have hca3 := ho3.cell hca2 HN1.out; have hcb3 := ho3.cell hcb2 HN1.out; clear hp3 ho3))
  all_goals
    go_wp2
    go_ret
  · refine ⟨_, _, _, rfl, ⟨HP3.out, HR3.out, HT.out.far, by rw [skew_set]; exact HT.out.len, HT.out.k0, HT.out.k1⟩, by rw [skew_set], ?_⟩
    exact ((((Only.refl (fun i => base ≤ i) w).alloc _).drew).then_ HO2.out (fun i h1 => .inl (HT.out.p.lt i h1).2)).then_ HO3.out (fun i h1 => .inl (HT.out.r.lt i h1).2)

set_option maxHeartbeats 4000000 in
theorem does_1no {w : World} {base g ga gs ca cs h ha hs da ds : Nat} {real skew : Int} {ap sd : List Int} (H : Two w base g ga gs ca cs h ha hs da ds real skew ap sd) (nd n : Int) (h0 : ¬ (0 ≤ nd ∧ nd < sd.length)) :
    Calls Try.prog 10 #[.pointer (some ⟨g, 0, none⟩), .pointer (some ⟨h, 0, none⟩), .agg #[.int .i64 1, .int .i64 nd, .int .i64 n]] w (Done base g ga gs ca cs h ha hs da ds skew sd.length w) := by
  have HT := Lib.hid H
  have HPA := Lib.hid (H.p.keep (S := fun _ => False) (((Only.refl _ w).alloc (.cells #[.int .i64 1, .int .i64 nd, .int .i64 n] 32))) (fun _ h => h.elim))
  have HRA := Lib.hid (H.r.keep (S := fun _ => False) (((Only.refl _ w).alloc (.cells #[.int .i64 1, .int .i64 nd, .int .i64 n] 32))) (fun _ h => h.elim))
  have HN1 : Hid (¬ Own3 g ga gs w.heap.size) := Lib.hid (fun h1 => by have := (H.p.lt _ h1).1; omega)
  have HN2 : Hid (¬ Own3 h ha hs w.heap.size) := Lib.hid (fun h1 => by have := (H.r.lt _ h1).1; omega)
  have hc1 : (w.alloc (.cells #[.int .i64 1, .int .i64 nd, .int .i64 n] 32)).cell? ⟨w.heap.size, 1, none⟩ = some (.int .i64 nd) := box_cell w #[.int .i64 1, .int .i64 nd, .int .i64 n] 32 1 rfl
  have hc2 : (w.alloc (.cells #[.int .i64 1, .int .i64 nd, .int .i64 n] 32)).cell? ⟨w.heap.size, 2, none⟩ = some (.int .i64 n) := box_cell w #[.int .i64 1, .int .i64 nd, .int .i64 n] 32 2 rfl
  have HC1 : Hid ((w.alloc (.cells #[.int .i64 1, .int .i64 nd, .int .i64 n] 32)).drew.cell? ⟨w.heap.size, 1, none⟩ = some (.int .i64 nd)) := Lib.hid hc1
  have HC2 : Hid ((w.alloc (.cells #[.int .i64 1, .int .i64 nd, .int .i64 n] 32)).drew.cell? ⟨w.heap.size, 2, none⟩ = some (.int .i64 n)) := Lib.hid hc2
  clear H
  go_enter Try.func10, Try.ntmps10
  go_wp2
  go_quiet (first | (go_at_call 16; exact Calls.quiet_of_same ((shift_no (HPA.out.drewN _) nd n h0).mono fun _ _ ⟨h1, h2⟩ => ⟨h1, h2.symm⟩)) | (go_at_call 28; exact Calls.quiet_of_same ((shift_r_no (HRA.out.drewN _) nd n h0).mono fun _ _ ⟨h1, h2⟩ => ⟨h1, h2.symm⟩)))
  go_wp2
  go_ret
  exact ⟨_, _, _, rfl, ⟨HPA.out.drewN _, HRA.out.drewN _, HT.out.far, HT.out.len, HT.out.k0, HT.out.k1⟩, rfl, ((Only.refl (fun i => base ≤ i) w).alloc _).drewN _⟩

set_option maxHeartbeats 4000000 in
theorem does_2no {w : World} {base g ga gs ca cs h ha hs da ds : Nat} {real skew : Int} {ap sd : List Int} (H : Two w base g ga gs ca cs h ha hs da ds real skew ap sd) (nd n : Int) (h0 : ¬ (0 ≤ nd ∧ nd < sd.length)) :
    Calls Try.prog 10 #[.pointer (some ⟨g, 0, none⟩), .pointer (some ⟨h, 0, none⟩), .agg #[.int .i64 2, .int .i64 nd, .int .i64 n]] w (Done base g ga gs ca cs h ha hs da ds skew sd.length w) := by
  have HT := Lib.hid H
  have HPA := Lib.hid (H.p.keep (S := fun _ => False) (((Only.refl _ w).alloc (.cells #[.int .i64 2, .int .i64 nd, .int .i64 n] 32))) (fun _ h => h.elim))
  have HRA := Lib.hid (H.r.keep (S := fun _ => False) (((Only.refl _ w).alloc (.cells #[.int .i64 2, .int .i64 nd, .int .i64 n] 32))) (fun _ h => h.elim))
  have HN1 : Hid (¬ Own3 g ga gs w.heap.size) := Lib.hid (fun h1 => by have := (H.p.lt _ h1).1; omega)
  have HN2 : Hid (¬ Own3 h ha hs w.heap.size) := Lib.hid (fun h1 => by have := (H.r.lt _ h1).1; omega)
  have hc1 : (w.alloc (.cells #[.int .i64 2, .int .i64 nd, .int .i64 n] 32)).cell? ⟨w.heap.size, 1, none⟩ = some (.int .i64 nd) := box_cell w #[.int .i64 2, .int .i64 nd, .int .i64 n] 32 1 rfl
  have hc2 : (w.alloc (.cells #[.int .i64 2, .int .i64 nd, .int .i64 n] 32)).cell? ⟨w.heap.size, 2, none⟩ = some (.int .i64 n) := box_cell w #[.int .i64 2, .int .i64 nd, .int .i64 n] 32 2 rfl
  have HC1 : Hid ((w.alloc (.cells #[.int .i64 2, .int .i64 nd, .int .i64 n] 32)).drew.cell? ⟨w.heap.size, 1, none⟩ = some (.int .i64 nd)) := Lib.hid hc1
  have HC2 : Hid ((w.alloc (.cells #[.int .i64 2, .int .i64 nd, .int .i64 n] 32)).drew.cell? ⟨w.heap.size, 2, none⟩ = some (.int .i64 n)) := Lib.hid hc2
  clear H
  go_enter Try.func10, Try.ntmps10
  go_wp2
  go_quiet (first | (go_at_call 15; exact Calls.quiet_of_same ((read_no (HPA.out.drewN _) nd h0).mono fun _ _ ⟨h1, h2⟩ => ⟨h1, h2.symm⟩)) | (go_at_call 29; exact Calls.quiet_of_same ((read_r_no (HRA.out.drewN _) nd h0).mono fun _ _ ⟨h1, h2⟩ => ⟨h1, h2.symm⟩)))
  go_wp2
  go_ret
  exact ⟨_, _, _, rfl, ⟨HPA.out.drewN _, HRA.out.drewN _, HT.out.far, HT.out.len, HT.out.k0, HT.out.k1⟩, rfl, ((Only.refl (fun i => base ≤ i) w).alloc _).drewN _⟩

set_option maxHeartbeats 4000000 in
theorem does_3no {w : World} {base g ga gs ca cs h ha hs da ds : Nat} {real skew : Int} {ap sd : List Int} (H : Two w base g ga gs ca cs h ha hs da ds real skew ap sd) (nd n : Int) (h0 : ¬ (0 ≤ nd ∧ nd < sd.length)) :
    Calls Try.prog 10 #[.pointer (some ⟨g, 0, none⟩), .pointer (some ⟨h, 0, none⟩), .agg #[.int .i64 3, .int .i64 nd, .int .i64 n]] w (Done base g ga gs ca cs h ha hs da ds skew sd.length w) := by
  have HT := Lib.hid H
  have HPA := Lib.hid (H.p.keep (S := fun _ => False) (((Only.refl _ w).alloc (.cells #[.int .i64 3, .int .i64 nd, .int .i64 n] 32))) (fun _ h => h.elim))
  have HRA := Lib.hid (H.r.keep (S := fun _ => False) (((Only.refl _ w).alloc (.cells #[.int .i64 3, .int .i64 nd, .int .i64 n] 32))) (fun _ h => h.elim))
  have HN1 : Hid (¬ Own3 g ga gs w.heap.size) := Lib.hid (fun h1 => by have := (H.p.lt _ h1).1; omega)
  have HN2 : Hid (¬ Own3 h ha hs w.heap.size) := Lib.hid (fun h1 => by have := (H.r.lt _ h1).1; omega)
  have hc1 : (w.alloc (.cells #[.int .i64 3, .int .i64 nd, .int .i64 n] 32)).cell? ⟨w.heap.size, 1, none⟩ = some (.int .i64 nd) := box_cell w #[.int .i64 3, .int .i64 nd, .int .i64 n] 32 1 rfl
  have hc2 : (w.alloc (.cells #[.int .i64 3, .int .i64 nd, .int .i64 n] 32)).cell? ⟨w.heap.size, 2, none⟩ = some (.int .i64 n) := box_cell w #[.int .i64 3, .int .i64 nd, .int .i64 n] 32 2 rfl
  have HC1 : Hid ((w.alloc (.cells #[.int .i64 3, .int .i64 nd, .int .i64 n] 32)).drew.cell? ⟨w.heap.size, 1, none⟩ = some (.int .i64 nd)) := Lib.hid hc1
  have HC2 : Hid ((w.alloc (.cells #[.int .i64 3, .int .i64 nd, .int .i64 n] 32)).drew.cell? ⟨w.heap.size, 2, none⟩ = some (.int .i64 n)) := Lib.hid hc2
  clear H
  go_enter Try.func10, Try.ntmps10
  go_wp2
  go_quiet (first | (go_at_call 15; exact Calls.quiet_of_same ((read_no (HPA.out.drewN _) nd h0).mono fun _ _ ⟨h1, h2⟩ => ⟨h1, h2.symm⟩)) | (go_at_call 29; exact Calls.quiet_of_same ((read_r_no (HRA.out.drewN _) nd h0).mono fun _ _ ⟨h1, h2⟩ => ⟨h1, h2.symm⟩)))
  go_wp2
  go_ret
  exact ⟨_, _, _, rfl, ⟨HPA.out.drewN _, HRA.out.drewN _, HT.out.far, HT.out.len, HT.out.k0, HT.out.k1⟩, rfl, ((Only.refl (fun i => base ≤ i) w).alloc _).drewN _⟩

set_option maxHeartbeats 4000000 in
theorem does_x {w : World} {base g ga gs ca cs h ha hs da ds : Nat} {real skew : Int} {ap sd : List Int} (H : Two w base g ga gs ca cs h ha hs da ds real skew ap sd) (k nd n : Int) (h0 : k ≠ 0) (h1 : k ≠ 1) (h2 : k ≠ 2) (h3 : k ≠ 3) :
    Calls Try.prog 10 #[.pointer (some ⟨g, 0, none⟩), .pointer (some ⟨h, 0, none⟩), .agg #[.int .i64 k, .int .i64 nd, .int .i64 n]] w (Done base g ga gs ca cs h ha hs da ds skew sd.length w) := by
  have HT := Lib.hid H
  have HPA := Lib.hid (H.p.keep (S := fun _ => False) (((Only.refl _ w).alloc (.cells #[.int .i64 k, .int .i64 nd, .int .i64 n] 32))) (fun _ h => h.elim))
  have HRA := Lib.hid (H.r.keep (S := fun _ => False) (((Only.refl _ w).alloc (.cells #[.int .i64 k, .int .i64 nd, .int .i64 n] 32))) (fun _ h => h.elim))
  have HN1 : Hid (¬ Own3 g ga gs w.heap.size) := Lib.hid (fun h1 => by have := (H.p.lt _ h1).1; omega)
  have HN2 : Hid (¬ Own3 h ha hs w.heap.size) := Lib.hid (fun h1 => by have := (H.r.lt _ h1).1; omega)
  have hc1 : (w.alloc (.cells #[.int .i64 k, .int .i64 nd, .int .i64 n] 32)).cell? ⟨w.heap.size, 1, none⟩ = some (.int .i64 nd) := box_cell w #[.int .i64 k, .int .i64 nd, .int .i64 n] 32 1 rfl
  have hc2 : (w.alloc (.cells #[.int .i64 k, .int .i64 nd, .int .i64 n] 32)).cell? ⟨w.heap.size, 2, none⟩ = some (.int .i64 n) := box_cell w #[.int .i64 k, .int .i64 nd, .int .i64 n] 32 2 rfl
  have HC1 : Hid ((w.alloc (.cells #[.int .i64 k, .int .i64 nd, .int .i64 n] 32)).drew.cell? ⟨w.heap.size, 1, none⟩ = some (.int .i64 nd)) := Lib.hid hc1
  have HC2 : Hid ((w.alloc (.cells #[.int .i64 k, .int .i64 nd, .int .i64 n] 32)).drew.cell? ⟨w.heap.size, 2, none⟩ = some (.int .i64 n)) := Lib.hid hc2
  have k0 : (k == 0) = false := by simpa using h0
  have k1 : (k == 1) = false := by simpa using h1
  have k2 : (k == 2) = false := by simpa using h2
  have k3 : (k == 3) = false := by simpa using h3
  clear H h0 h1 h2 h3
  go_enter Try.func10, Try.ntmps10
  go_wp2
  go_ret
  exact ⟨_, _, _, rfl, ⟨HPA.out, HRA.out, HT.out.far, HT.out.len, HT.out.k0, HT.out.k1⟩, rfl, (Only.refl (fun i => base ≤ i) w).alloc _⟩

/-- Whatever deed. -/
theorem does_any {w : World} {base g ga gs ca cs h ha hs da ds : Nat} {real skew : Int} {ap sd : List Int} (H : Two w base g ga gs ca cs h ha hs da ds real skew ap sd) (k nd n : Int) :
    Calls Try.prog 10 #[.pointer (some ⟨g, 0, none⟩), .pointer (some ⟨h, 0, none⟩), .agg #[.int .i64 k, .int .i64 nd, .int .i64 n]] w (Done base g ga gs ca cs h ha hs da ds skew sd.length w) := by
  by_cases hr : 0 ≤ nd ∧ nd < sd.length
  · by_cases h0 : k = 0
    · subst h0; exact does_0 H nd n
    by_cases h1 : k = 1
    · subst h1; exact does_1 H nd n hr.1 hr.2
    by_cases h2 : k = 2
    · subst h2; exact does_2 H nd n hr.1 hr.2
    by_cases h3 : k = 3
    · subst h3; exact does_3 H nd n hr.1 hr.2
    exact does_x H k nd n h0 h1 h2 h3
  · by_cases h0 : k = 0
    · subst h0; exact does_0 H nd n
    by_cases h1 : k = 1
    · subst h1; exact does_1no H nd n hr
    by_cases h2 : k = 2
    · subst h2; exact does_2no H nd n hr
    by_cases h3 : k = 3
    · subst h3; exact does_3no H nd n hr
    exact does_x H k nd n h0 h1 h2 h3

end Go.Proofs.Ytpophcmdhpechaa.Clk

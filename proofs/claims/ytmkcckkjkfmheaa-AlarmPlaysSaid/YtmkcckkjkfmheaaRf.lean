/- Alarm: a deed in both. -/
import Derived.Test.YtmkcckkjkfmheaaRe
set_option linter.unusedVariables false
set_option linter.unusedSimpArgs false
set_option maxRecDepth 100000
namespace Go.Proofs.Ytmkcckkjkfmheaa.Al
open Go.RowKit Go.Maps Go.Proofs.Ytmkcckkjkfmheaa.Base Go.Proofs.Ytmkcckkjkfmheaa.Rws Go.Proofs.Ytmkcckkjkfmheaa.Wh Go.Proofs.YtmkcckkjkfmheaaW.PrintWords Go.Proofs.YtmkcckkjkfmheaaW.PrintMore
attribute [local go_sem] max2_mx min2_mn max_two min_two max_three min_three max_four min_four
attribute [local go_sem high] eqK27 eqK33

/-- Both, beside each other, made since W. -/
structure Ply (W w : World) (p : Nat) (F : Nat → Prop) (G n last : Int) (A : List En) (r : Nat) (v : Value) (now : Int) (R : List NT) : Prop where
  a : AH w p F G n last A
  b : RA w r (pw G) now v R
  rl : Rel G n now A R
  ap : ∀ k, F k → ¬ OwnR r v k
  fa : ∀ k, F k → W.heap.size ≤ k
  fb : ∀ k, OwnR r v k → W.heap.size ≤ k
  on : Only (fun _ => False) W w

section
variable {W w w1 w2 : World} {p r : Nat} {F F' : Nat → Prop} {G n last n' last' now now' : Int} {A A' : List En} {v v' : Value} {R R' : List NT}
theorem Ply.pass (h : Ply W w p F G n last A r v now R) (ho : Only (fun _ => False) w w1) : Ply W w1 p F G n last A r v now R :=
  ⟨h.a.only ho (fun _ _ h => h), h.b.only ho (fun _ _ h => h), h.rl, h.ap, h.fa, h.fb, h.on.trans ho⟩

theorem Ply.rb (h : Ply W w p F G n last A r v now R) (ho : Only F w w1) : RA w1 r (pw G) now v R := h.b.only ho (fun k hk hk2 => h.ap k hk2 hk)

theorem Ply.both (h : Ply W w p F G n last A r v now R) (ha : AH w1 p F' G n' last' A') (hf : ∀ k, F' k → F k ∨ w.heap.size ≤ k) (ho1 : Only F w w1) (hb : RA w2 r (pw G) now' v' R') (hv : ∀ q, v'.ownBlock = some q → w1.heap.size ≤ q) (ho2 : Only (fun q => q = r) w1 w2) (hr : Rel G n' now' A' R') : Ply W w2 p F' G n' last' A' r v' now' R' := by
  have hrw : r < w.heap.size := h.b.flt r (.inl rfl)
  have hnr : ¬ F' r := fun h2 => (hf r h2).elim (fun h3 => h.ap r h3 (.inl rfl)) (fun h3 => by omega)
  refine ⟨ha.only ho2 (fun i hi e => hnr (e ▸ hi)), hb, hr, fun k hk hk2 => ?_, fun k hk => ?_, fun k hk => ?_, (h.on.then_ ho1 (fun k hk => .inr (h.fa k hk))).then_ ho2 (fun k hk => .inr (by rw [hk]; exact h.fb r (.inl rfl)))⟩
  · rcases hk2 with rfl | hk2
    · exact hnr hk
    · have := hv k hk2; have := ha.flt k hk; omega
  · exact (hf k hk).elim (h.fa k) (fun h2 => Nat.le_trans h.on.size h2)
  · rcases hk with rfl | hk
    · exact h.fb k (.inl rfl)
    · exact Nat.le_trans h.on.size (Nat.le_trans ho1.size (hv k hk))
end

/-- What a deed leaves. -/
def DoesP (W : World) (p : Nat) (G : Int) (r : Nat) (last : Int) (m : Nat) (e : Ending) (w' : World) : Prop :=
  e = .returned (.bool true) ∧ ∃ F' n' last' A' v' now' R', Ply W w' p F' G n' last' A' r v' now' R' ∧ last' ≤ last + 1 ∧ A'.length ≤ m + 1

theorem clear_v {w : World} {p : Nat} {F : Nat → Prop} {G n last : Int} {A : List En} (h : AH w p F G n last A) (k : K5) (hk : k.wf) :
    Calls Try.prog 23 #[.pointer (some ⟨p, 0, none⟩), .agg #[.int .i64 k.a, .int .i64 k.b, .int .i64 k.c, .int .i64 k.d, .int .i64 k.e]] w fun e w' => e = .returned (.bool (handOf A k).2) ∧ ClearPost w p F G n last (A.filter (fun x => decide (x.n ≠ k))) w' := clear_a h k hk

theorem set_v' {w : World} {p : Nat} {F : Nat → Prop} {G n last : Int} {A : List En} (h : AH w p F G n last A) (k : K5) (hk : k.wf) (t : Int) (hA : A.length < 4096) (hlast : last < 90000) :
    Calls Try.prog 10 #[.pointer (some ⟨p, 0, none⟩), .agg #[.int .i64 k.a, .int .i64 k.b, .int .i64 k.c, .int .i64 k.d, .int .i64 k.e], .int .i64 t] w fun e w' => e = .returned (.int .i64 0) ∧ ClearPost w p F G n (last + 1) (setA A k (cl t) (last + 1)) w' := set_a h k hk t hA hlast

theorem mine_v' (k : K5) (w : World) : Calls Try.prog 11 #[.agg #[.int .i64 k.a, .int .i64 k.b, .int .i64 k.c, .int .i64 k.d, .int .i64 k.e]] w fun e w' => e = .returned (.agg #[.int .i64 k.a, .int .i64 k.b, .int .i64 k.c, .int .i64 k.d, .int .i64 k.e]) ∧ Only (fun _ => False) w w' := mine_p k w

def boxD (kind : Int) (k : K5) (t : Int) : Obj := .cells #[.int .i64 kind, .int .i64 k.a, .int .i64 k.b, .int .i64 k.c, .int .i64 k.d, .int .i64 k.e, .int .i64 t] 56

def Seven (V : World) (B : Nat) (k : K5) (t : Int) : Prop := V.cell? ⟨B, 1, none⟩ = some (.int .i64 k.a) ∧ V.cell? ⟨B, 2, none⟩ = some (.int .i64 k.b) ∧ V.cell? ⟨B, 3, none⟩ = some (.int .i64 k.c) ∧ V.cell? ⟨B, 4, none⟩ = some (.int .i64 k.d) ∧ V.cell? ⟨B, 5, none⟩ = some (.int .i64 k.e) ∧ V.cell? ⟨B, 6, none⟩ = some (.int .i64 t)

theorem seven_of {V : World} {B : Nat} {kind : Int} {k : K5} {t : Int} (h : V.heap[B]? = some (boxD kind k t)) : V.cell? ⟨B, 1, none⟩ = some (.int .i64 k.a) ∧ V.cell? ⟨B, 2, none⟩ = some (.int .i64 k.b) ∧ V.cell? ⟨B, 3, none⟩ = some (.int .i64 k.c) ∧ V.cell? ⟨B, 4, none⟩ = some (.int .i64 k.d) ∧ V.cell? ⟨B, 5, none⟩ = some (.int .i64 k.e) ∧ V.cell? ⟨B, 6, none⟩ = some (.int .i64 t) :=
  ⟨cell_at h 1 rfl, cell_at h 2 rfl, cell_at h 3 rfl, cell_at h 4 rfl, cell_at h 5 rfl, cell_at h 6 rfl⟩

set_option maxHeartbeats 32000000 in
theorem does_p {W w : World} {p r : Nat} {F : Nat → Prop} {G n last now : Int} {A : List En} {v : Value} {R : List NT} (kind : Int) (k : K5) (t : Int) (hk : k.wf) (h : Ply W w p F G n last A r v now R) (hA : A.length ≤ 100) (hl : last ≤ 100) :
    Calls Try.prog 21 #[.pointer (some ⟨p, 0, none⟩), .pointer (some ⟨r, 0, none⟩), .agg #[.int .i64 kind, .int .i64 k.a, .int .i64 k.b, .int .i64 k.c, .int .i64 k.d, .int .i64 k.e, .int .i64 t]] w (DoesP W p G r last A.length) := by
  have hwfs := h.a.wfs
  have hRl : R.length ≤ 100 := by rw [h.rl.len]; exact hA
  obtain ⟨w1, hw1⟩ : ∃ w1, w1 = w.alloc (boxD kind k t) := ⟨_, rfl⟩
  obtain ⟨B, hB⟩ : ∃ B, B = w.heap.size := ⟨_, rfl⟩
  have hb1 : w1.heap[B]? = some (boxD kind k t) := by rw [hw1, hB]; exact heap_alloc_new w _
  have ho1 : Only (fun _ => False) w w1 := by rw [hw1]; exact (Only.refl _ w).alloc _
  have HP1 := Lib.hid (h.pass ho1)
  have HB1 := Lib.hid hb1
  have HFB : Hid (∀ i, F i → i ≠ B) := Lib.hid (fun i hi e => by have := h.a.flt i hi; omega)
  have HRB : Hid (B ≠ r) := Lib.hid (fun e => by have := h.b.flt r (.inl rfl); omega)
  have HMI := Lib.hid (fun w => mine_v' k w)
  have HSE : Hid (∀ w, AH w p F G n last A → _) := Lib.hid (fun w h => set_v' h k hk t (by omega) (by omega))
  have HCE : Hid (∀ w, AH w p F G n last A → _) := Lib.hid (fun w h => clear_v h k hk)
  have HRS : Hid (∀ w, RA w r (pw G) now v R → _) := Lib.hid (fun w h => rset_p k t h (by omega))
  have HRC : Hid (∀ w, RA w r (pw G) now v R → _) := Lib.hid (fun w h => rclear_p k h (by omega))
  have HRT : Hid (∀ w, RA w r (pw G) now v R → _) := Lib.hid (fun w h => rtime_p k h (by omega))
  have HAT : Hid (∀ w, AH w p F G n last A → _) := Lib.hid (fun w (h : AH w p F G n last A) => h.time k hk)
  have HDA : Hid (∀ w, AH w p F G n last A → _) := Lib.hid (fun w h => due_a h t (e := mx (cl t / pw G) n) rfl)
  have HRD : Hid (∀ w, RA w r (pw G) now v R → _) := Lib.hid (fun w h' => rdue_p h' hwfs.2.2.2.1.1 hwfs.2.2.2.1.2 t (by omega) h.rl.tm.2 h.rl.tb (n := mx (cl t) now) rfl)
  unfold K5.v at HRS HRC HRT HAT
  have hth := h.rl.there k
  have htm := h.rl.time k
  obtain ⟨⟨tt, ok⟩, hto⟩ : ∃ z, z = tOf R k := ⟨_, rfl⟩
  rw [hth, ← hto] at HCE
  rw [← hto] at HRC HRT
  rw [htm, ← hto] at HAT
  simp only at HCE HRC HRT HAT
  have HRLS := Lib.hid (h.rl.set k (cl t) (last + 1) (cl_bounds t))
  have HRLC := Lib.hid (h.rl.cut k)
  have HRLD := Lib.hid (h.rl.due hwfs.2.2.2.1.1 hwfs.2.2.2.1.2 t (e := mx (cl t / pw G) n) (now' := mx (cl t) now) rfl rfl)
  have HLS := Lib.hid (setA_len A k (cl t) (last + 1))
  have HLC : Hid ((A.filter (fun x => decide (x.n ≠ k))).length ≤ A.length + 1) := Lib.hid (Nat.le_succ_of_le (List.length_filter_le _ _))
  have HLD : Hid ((leftA G (mx (cl t / pw G) n) A).length ≤ A.length + 1) := Lib.hid (Nat.le_succ_of_le (List.length_filter_le _ _))
  have HDL : Hid ((sortN ((dueA G (mx (cl t / pw G) n) A).map En.n)).length ≤ 10000) := Lib.hid (Nat.le_trans (due_len _ _ _) (by omega))
  have hwk : w1 = w.alloc (.cells #[.int .i64 kind, .int .i64 k.a, .int .i64 k.b, .int .i64 k.c, .int .i64 k.d, .int .i64 k.e, .int .i64 t] 56) := hw1
  have hkc : w1.cell? ⟨B, 0, none⟩ = some (.int .i64 kind) := cell_at hb1 0 rfl
  have hcases : (kind = 0 ∨ kind = 1 ∨ kind = 2) ∨ kind = 3 ∨ (kind = 4 ∨ kind = 5) ∨ kind = 6 ∨ (kind ≠ 0 ∧ kind ≠ 1 ∧ kind ≠ 2 ∧ kind ≠ 3 ∧ kind ≠ 4 ∧ kind ≠ 5 ∧ kind ≠ 6) := by omega
  obtain ⟨y1, y2, y3, y4, y5, y6⟩ := seven_of hb1
  clear h hb1 ho1 hw1 hA hl hk hRl hwfs hth htm hto
  rcases hcases with h012 | h3 | h45 | h6 | hno
  · rcases h012 with rfl | rfl | rfl
    all_goals
      go_enter Try.func21, Try.ntmps21
      go_upto_region 1 with fail
      rw [← hwk, ← hB]
      clear hwk hB
      go_upto_region 6 with fail
      go_region_held3 (fun V => V.cell? ⟨B, 1, none⟩ = some (.int .i64 k.a) ∧ V.cell? ⟨B, 2, none⟩ = some (.int .i64 k.b) ∧ V.cell? ⟨B, 3, none⟩ = some (.int .i64 k.c) ∧ V.cell? ⟨B, 4, none⟩ = some (.int .i64 k.d) ∧ V.cell? ⟨B, 5, none⟩ = some (.int .i64 k.e) ∧ V.cell? ⟨B, 6, none⟩ = some (.int .i64 t)) (first | exact seven_of HB7.out | exact seven_of HB6.out | exact seven_of HB5.out | exact seven_of HB1.out) (first
        | (go_at_call 11; refine (HMI.out _).mono ?_; rintro en w5 ⟨rfl, ho⟩; have HP5 : Hid (Ply W w5 p F G n last A r v now R) := Lib.hid (by first | exact HP1.out.pass ho | exact (HP1.out.pass (Only.refl _ _).drew).pass ho); have HB5 := Lib.hid (ho.blk (o := boxD _ k t) (g := B) HB1.out (fun h => h)); clear ho)
        | (go_at_call 10; (with_reducible refine (HSE.out _ HP5.out.a).mono ?_); rintro en w6 ⟨rfl, F6, hA6, hf6, ho6⟩; have HA6 := Lib.hid hA6; have HF6 := Lib.hid hf6; have HO6 := Lib.hid ho6; have HR6 := Lib.hid (HP5.out.rb ho6); have HB6 := Lib.hid (ho6.blk HB5.out (fun h => HFB.out _ h rfl)); clear hA6 hf6 ho6)
        | (go_at_call 37; (with_reducible refine (HRS.out _ HR6.out).mono ?_); rintro en w7 ⟨rfl, v7, hr7, hv7, ho7⟩; have HP7 := Lib.hid (HP5.out.both HA6.out HF6.out HO6.out hr7 hv7 ho7 HRLS.out); have HB7 := Lib.hid (ho7.blk HB6.out HRB.out); clear hr7 hv7 ho7))
      go_wp2
      go_ret
      exact ⟨rfl, _, _, _, _, _, _, _, HP7.out, Int.le_refl _, HLS.out⟩
  · subst h3
    go_enter Try.func21, Try.ntmps21
    go_upto_region 1 with fail
    rw [← hwk, ← hB]
    clear hwk hB
    go_upto_region 8 with fail
    go_region_held3 (fun V => V.cell? ⟨B, 1, none⟩ = some (.int .i64 k.a) ∧ V.cell? ⟨B, 2, none⟩ = some (.int .i64 k.b) ∧ V.cell? ⟨B, 3, none⟩ = some (.int .i64 k.c) ∧ V.cell? ⟨B, 4, none⟩ = some (.int .i64 k.d) ∧ V.cell? ⟨B, 5, none⟩ = some (.int .i64 k.e) ∧ V.cell? ⟨B, 6, none⟩ = some (.int .i64 t)) (first | exact seven_of HB8.out | exact seven_of HB7.out | exact seven_of HB6.out | exact seven_of HB5.out | exact seven_of HB1.out) (first
      | (go_at_call 11; refine (HMI.out _).mono ?_; rintro en w5 ⟨rfl, ho⟩; have HP5 : Hid (Ply W w5 p F G n last A r v now R) := Lib.hid (by first | exact HP1.out.pass ho | exact (HP1.out.pass (Only.refl _ _).drew).pass ho); have HB5 := Lib.hid (ho.blk (o := boxD _ k t) (g := B) HB1.out (fun h => h)); clear ho)
      | (go_at_call 23; (with_reducible refine (HCE.out _ HP5.out.a).mono ?_); rintro en w6 ⟨rfl, F6, hA6, hf6, ho6⟩; have HA6 := Lib.hid hA6; have HF6 := Lib.hid hf6; have HO6 := Lib.hid ho6; have HR6 := Lib.hid (HP5.out.rb ho6); have HB6 := Lib.hid (ho6.blk HB5.out (fun h => HFB.out _ h rfl)); clear hA6 hf6 ho6)
      | (go_at_call 38; (with_reducible refine (HRC.out _ HR6.out).mono ?_); rintro en w7 ⟨rfl, v7, hr7, hv7, ho7⟩; have HP7 := Lib.hid (HP5.out.both HA6.out HF6.out HO6.out hr7 hv7 ho7 HRLC.out); have HB7 := Lib.hid (ho7.blk HB6.out HRB.out); clear hr7 hv7 ho7))
    go_wp2
    go_ret
    exact ⟨by first | rfl | simp, _, _, _, _, _, _, _, HP7.out, by omega, HLC.out⟩
  · rcases h45 with rfl | rfl
    all_goals
      go_enter Try.func21, Try.ntmps21
      go_upto_region 1 with fail
      rw [← hwk, ← hB]
      clear hwk hB
      go_upto_region 11 with fail
      go_region_held3 (fun V => V.cell? ⟨B, 1, none⟩ = some (.int .i64 k.a) ∧ V.cell? ⟨B, 2, none⟩ = some (.int .i64 k.b) ∧ V.cell? ⟨B, 3, none⟩ = some (.int .i64 k.c) ∧ V.cell? ⟨B, 4, none⟩ = some (.int .i64 k.d) ∧ V.cell? ⟨B, 5, none⟩ = some (.int .i64 k.e) ∧ V.cell? ⟨B, 6, none⟩ = some (.int .i64 t)) (first | exact seven_of HB8.out | exact seven_of HB7.out | exact seven_of HB6.out | exact seven_of HB5.out | exact seven_of HB1.out) (first
        | (go_at_call 13; (first | refine (HDA.out _ HP1.out.a).mono ?_ | refine (HDA.out _ (HP1.out.pass (Only.refl _ _).drew).a).mono ?_); rintro en w6 ⟨v6, F6, rfl, ht6, hA6, hf6, ho6'⟩; have ho6 : Only F w1 w6 := (by first | exact ho6' | exact (Only.refl F w1).drew.trans ho6'); have HA6 := Lib.hid hA6; have HF6 : Hid (∀ k, F6 k → F k ∨ w1.heap.size ≤ k) := Lib.hid hf6; have HO6 := Lib.hid ho6; have HT6 : Hid (Ns w6 (fun k => w1.heap.size ≤ k ∧ ¬ F6 k) v6 _) := Lib.hid ht6; have HR6 := Lib.hid (HP1.out.rb ho6); have HB6 := Lib.hid (ho6.blk HB1.out (fun h => HFB.out _ h rfl)); clear hA6 hf6 ho6 ho6' ht6)
        | (go_at_call 40; (with_reducible refine (HRD.out _ HR6.out).mono ?_); rintro en w7 ⟨vo, v7, rfl, hn7, hr7, hv7, ho7⟩; have HP7 := Lib.hid (HP1.out.both HA6.out HF6.out HO6.out hr7 hv7 ho7 HRLD.out.2); have HB7 := Lib.hid (ho7.blk HB6.out HRB.out); have HSM := Lib.hid (same_p (HT6.out.only ho7 (fun q hq e => by have h1 := (Row.own HT6.out hq).1.1; have h2 := HP1.out.b.flt r (.inl rfl); omega)) (by rw [HRLD.out.1]; exact hn7) HDL.out); clear hn7 hr7 hv7 ho7)
        | (go_at_call 39; refine HSM.out.mono ?_; rintro en w8 ⟨rfl, ho8⟩; have HP8 := Lib.hid (HP7.out.pass ho8); have HB8 := Lib.hid (ho8.blk HB7.out (fun h => h)); clear ho8))
      go_wp2
      go_ret
      exact ⟨rfl, _, _, _, _, _, _, _, HP8.out, by omega, HLD.out⟩
  · subst h6
    go_enter Try.func21, Try.ntmps21
    go_upto_region 1 with fail
    rw [← hwk, ← hB]
    clear hwk hB
    go_upto_region 14 with (first
      | (go_at_call 11; refine (HMI.out _).mono ?_; rintro en w5 ⟨rfl, ho⟩; have HP5 : Hid (Ply W w5 p F G n last A r v now R) := Lib.hid (by first | exact HP1.out.pass ho | exact (HP1.out.pass (Only.refl _ _).drew).pass ho); have HB5 := Lib.hid (ho.blk (o := boxD _ k t) (g := B) HB1.out (fun h => h)); clear ho)
      | (go_at_call 17; (with_reducible refine (HAT.out _ HP5.out.a).mono ?_); rintro en w6 ⟨rfl, ho6⟩; have HP6 := Lib.hid (HP5.out.pass ho6); have HB6 := Lib.hid (ho6.blk HB5.out (fun h => h)); clear ho6))
    clear y1 y2 y3 y4 y5 y6
    obtain ⟨y1, y2, y3, y4, y5, y6⟩ := seven_of HB6.out
    go_wp2_with (go_at_call 41; (with_reducible refine (HRT.out _ HP6.out.b).mono ?_); rintro en w7 ⟨rfl, ho7⟩; have HP7 := Lib.hid (HP6.out.pass ho7); clear ho7)
    go_ret
    exact ⟨by first | rfl | simp, _, _, _, _, _, _, _, HP7.out, by omega, by omega⟩
  · obtain ⟨k0, k1, k2, k3, k4, k5, k6⟩ := hno
    go_enter Try.func21, Try.ntmps21
    go_upto_region 1 with fail
    rw [← hwk, ← hB]
    clear hwk hB
    go_wp2
    go_ret
    exact ⟨rfl, _, _, _, _, _, _, _, HP1.out, by omega, by omega⟩
end Go.Proofs.Ytmkcckkjkfmheaa.Al

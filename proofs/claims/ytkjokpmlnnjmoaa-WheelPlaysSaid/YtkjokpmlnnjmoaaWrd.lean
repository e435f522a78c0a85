/- Wheel: a deed in both. -/
import Derived.Test.YtkjokpmlnnjmoaaWrb
import Derived.Test.YtkjokpmlnnjmoaaWrc
set_option linter.unusedVariables false
set_option linter.unusedSimpArgs false
namespace Go.Proofs.Ytkjokpmlnnjmoaa.Wh
open Go.RowKit Go.Maps Go.Proofs.Ytkjokpmlnnjmoaa.Base Go.Proofs.Ytkjokpmlnnjmoaa.Rws Go.Proofs.YtkjokpmlnnjmoaaW.PrintWords Go.Proofs.YtkjokpmlnnjmoaaW.PrintMore
attribute [local go_sem] max2_mx min2_mn max_two min_two max_three min_three max_four min_four

/-- Both wheels. -/
structure St (w0 w : World) (g : Nat) (F : Nat → Prop) (r : Nat) (G : Nat → Prop) (n last : Int) (v : Value) (R : List (Int × Int)) : Prop where
  a : WH w g F n last R
  b : RS w r G n last v R
  so : R.Pairwise (fun a b => leK a b = true)
  ap : ∀ k, F k → ¬ G k
  fa : ∀ k, F k → w0.heap.size ≤ k
  ga : ∀ k, G k → w0.heap.size ≤ k
  on : Only (fun _ => False) w0 w
  le : (R.length : Int) ≤ last

section
variable {w0 w w' : World} {g r : Nat} {F G F' G' S : Nat → Prop} {n last n' last' : Int} {v v' : Value} {R R' : List (Int × Int)}
theorem St.only (h : St w0 w g F r G n last v R) (ho : Only S w w') (hs : ∀ k, S k → w0.heap.size ≤ k ∧ ¬ F k ∧ ¬ G k) : St w0 w' g F r G n last v R :=
  ⟨h.a.only ho (fun i hi h2 => (hs i h2).2.1 hi), h.b.only ho (fun i hi h2 => (hs i h2).2.2 hi), h.so, h.ap, h.fa, h.ga, h.on.then_ ho (fun k hk => .inr (hs k hk).1), h.le⟩

/-- The wheel has gone on, then the document's. -/
theorem St.both (h : St w0 w g F r G n last v R) {w1 w2 : World} {K : List (Int × Int)} (h1 : WH w1 g F' n' last' K) (hf : ∀ k, F' k → F k ∨ w.heap.size ≤ k) (ho1 : Only F w w1) (h2 : RS w2 r G' n' last' v' R') (hg : ∀ k, G' k → G k ∨ w1.heap.size ≤ k) (ho2 : Only G w1 w2) (hp : K.Perm R') (hs : R'.Pairwise (fun a b => leK a b = true)) (hl : (R'.length : Int) ≤ last') : St w0 w2 g F' r G' n' last' v' R' := by
  have hd : ∀ k, F' k → ¬ G k := fun k hk hk2 => by
    rcases hf k hk with h3 | h3
    · exact h.ap k h3 hk2
    · have := h.b.flt k hk2; omega
  refine ⟨(h1.perm hp).only ho2 hd, h2, hs, fun k hk hk2 => ?_, fun k hk => ?_, fun k hk => ?_, (h.on.then_ ho1 (fun k hk => .inr (h.fa k hk))).then_ ho2 (fun k hk => .inr (h.ga k hk)), hl⟩
  · rcases hg k hk2 with h3 | h3
    · exact hd k hk h3
    · have := h1.flt k hk; omega
  · rcases hf k hk with h3 | h3
    · exact h.fa k h3
    · have := h.on.size; omega
  · rcases hg k hk with h3 | h3
    · exact h.ga k h3
    · have := h.on.size; have := ho1.size; omega
end

theorem sorted_le {R : List (Int × Int)} (h : R.Pairwise (fun a b => leK a b = true)) : R.Pairwise (fun a b => a.1 ≤ b.1) := h.imp (fun {a b} h => by
  simp only [leK, decide_eq_true_eq] at h
  omega)

theorem insR_perm (a t : Int) (R : List (Int × Int)) : (R ++ [(a, t)]).Perm (insR a t R) := by
  unfold insR
  have h := List.filter_append_perm (fun p : Int × Int => decide (p.1 ≤ a)) R
  have e : R.filter (fun x => !decide (x.1 ≤ a)) = R.filter (fun p => decide (a < p.1)) := List.filter_congr (fun p _ => by
    by_cases h : p.1 ≤ a
    · have h' : ¬ a < p.1 := by omega
      simp [h, h']
    · have h' : a < p.1 := by omega
      simp [h, h'])
  rw [e] at h
  exact (h.symm.append_right _).trans ((List.append_assoc _ _ _ ▸ (List.Perm.append_left _ (List.perm_append_comm (l₂ := [(a, t)])))))

theorem insR_sorted {a t : Int} {R : List (Int × Int)} (h : R.Pairwise (fun a b => leK a b = true)) (ht : ∀ p ∈ R, p.2 < t) : (insR a t R).Pairwise (fun a b => leK a b = true) := by
  unfold insR
  rw [List.pairwise_append, List.pairwise_cons]
  refine ⟨h.sublist List.filter_sublist, ⟨fun q hq => ?_, h.sublist List.filter_sublist⟩, fun p hp q hq => ?_⟩
  · have := of_decide_eq_true (List.mem_filter.1 hq).2
    unfold leK
    exact decide_eq_true (by simp only; omega)
  · have h1 := of_decide_eq_true (List.mem_filter.1 hp).2
    have h2 := ht p (List.mem_filter.1 hp).1
    unfold leK
    rcases List.mem_cons.1 hq with rfl | h3
    · exact decide_eq_true (by simp only; omega)
    · have := of_decide_eq_true (List.mem_filter.1 h3).2
      exact decide_eq_true (by omega)

theorem insR_len (a t : Int) (R : List (Int × Int)) : (insR a t R).length = R.length + 1 := by
  rw [← (insR_perm a t R).length_eq, List.length_append, List.length_singleton]

/-- Of a sorted list what is told is what stands first. -/
theorem told_take {R : List (Int × Int)} {e : Int} {i : Nat} (h : R.Pairwise (fun a b => leK a b = true)) (h1 : ∀ p ∈ R.take i, p.1 ≤ e) (h2 : ∀ p, R[i]? = some p → e < p.1) : outK e R = (R.take i).map Prod.snd ∧ restK e R = R.drop i := by
  have h3 : ∀ p ∈ R.drop i, e < p.1 := by
    cases hd : R.drop i with
    | nil => intro p hp; cases hp
    | cons q L =>
      have hq : R[i]? = some q := by
        have : (R.drop i)[0]? = some q := by rw [hd]; rfl
        rwa [List.getElem?_drop, Nat.add_zero] at this
      have hqe := h2 q hq
      have hs : (R.drop i).Pairwise (fun a b => a.1 ≤ b.1) := (sorted_le h).sublist (List.drop_sublist i R)
      rw [hd, List.pairwise_cons] at hs
      intro p hp
      rcases List.mem_cons.1 hp with rfl | h4
      · exact hqe
      · have := hs.1 p h4; omega
  have hf : R.filter (fun p => decide (p.1 ≤ e)) = R.take i := by
    conv => lhs; rw [← List.take_append_drop i R]
    rw [List.filter_append, List.filter_eq_self.2 (fun p hp => decide_eq_true (h1 p hp)), (List.filter_eq_nil_iff.2 (fun p hp => by have := h3 p hp; simp; omega) : (R.drop i).filter (fun p => decide (p.1 ≤ e)) = []), List.append_nil]
  constructor
  · unfold outK
    rw [hf, ← sortK_of (K := R.take i) (K' := R.take i) (.refl _) (h.sublist (List.take_sublist i R))]
  · unfold restK
    conv => lhs; rw [← List.take_append_drop i R]
    rw [List.filter_append, (List.filter_eq_nil_iff.2 (fun p hp => by have := h1 p hp; simp; omega) : (R.take i).filter (fun p => decide (e < p.1)) = []), List.nil_append, List.filter_eq_self.2 (fun p hp => decide_eq_true (h3 p hp))]

theorem one_name {K : List (Int × Int)} (hn : (K.map Prod.snd).Nodup) {p q : Int × Int} (hp : p ∈ K) (hq : q ∈ K) (h : p.2 = q.2) : p = q := by
  induction K with
  | nil => cases hp
  | cons x K ih =>
    rw [List.map_cons, List.nodup_cons] at hn
    rcases List.mem_cons.1 hp with rfl | h1
    · rcases List.mem_cons.1 hq with rfl | h2
      · rfl
      · exact absurd (List.mem_map.2 ⟨q, h2, h.symm⟩) hn.1
    · rcases List.mem_cons.1 hq with rfl | h2
      · exact absurd (List.mem_map.2 ⟨p, h1, h⟩) hn.1
      · exact ih hn.2 h1 h2

/-- What a deed leaves. -/
def DoesPost (w0 w : World) (g r : Nat) (last : Int) (e : Ending) (w' : World) : Prop :=
  e = .returned (.bool true) ∧ ∃ F' G' n' last' v' R', St w0 w' g F' r G' n' last' v' R' ∧ last' ≤ last + 1

set_option maxHeartbeats 8000000 in
set_option maxRecDepth 100000 in
theorem does_p {w0 w : World} {g r : Nat} {F G : Nat → Prop} {n last : Int} {v : Value} {R : List (Int × Int)} (kind dn : Int) (more : Bool) (h : St w0 w g F r G n last v R) (hdn : (Lit.int .i64 dn).wf = true) (hl : last ≤ 1000) :
    Calls Try.prog 19 #[.pointer (some ⟨g, 0, none⟩), .pointer (some ⟨r, 0, none⟩), .agg #[.int .i64 kind, .int .i64 dn, .bool more]] w (DoesPost w0 w g r last) := by
  have HSt := Lib.hid h
  have HWF := Lib.hid hdn
  have HLA := Lib.hid hl
  obtain ⟨B, hB⟩ : ∃ B, B = w.heap.size := ⟨_, rfl⟩
  obtain ⟨w1, hw1⟩ : ∃ w1, w1 = w.alloc (.cells #[.int .i64 kind, .int .i64 dn, .bool more] 47) := ⟨_, rfl⟩
  have hO1 : Only (fun _ => False) w w1 := by rw [hw1]; exact (Only.refl _ w).alloc _
  have hk1 : w1.heap[B]? = some (.cells #[.int .i64 kind, .int .i64 dn, .bool more] 47 (0, 0)) := by rw [hw1, hB]; exact heap_alloc_new w _
  have HCE : Hid (∀ W, Only (fun _ => False) w1 W → W.cell? ⟨B, 0, none⟩ = some (.int .i64 kind) ∧ W.cell? ⟨B, 1, none⟩ = some (.int .i64 dn) ∧ W.cell? ⟨B, 2, none⟩ = some (.bool more)) := Lib.hid (fun W ho => ⟨cell_at (ho.blk hk1 (fun h => h)) 0 rfl, cell_at (ho.blk hk1 (fun h => h)) 1 rfl, cell_at (ho.blk hk1 (fun h => h)) 2 rfl⟩)
  have HBW : Hid (w.heap.size ≤ B) := Lib.hid (by omega)
  have HO1 := Lib.hid hO1
  obtain ⟨y0, y1, y2⟩ := HCE.out w1 (Only.refl _ _)
  have hS1 := h.only hO1 (fun _ h => h.elim)
  have hn1 := hS1.b.now
  clear h hdn hl hk1 hS1 hO1
  have HRA := Lib.hid (radd_p n dn)
  go_enter Try.func19, Try.ntmps19
  cases more with
  | true =>
    go_upto_region 3 with fail
    rw [← hw1, ← hB]
    clear hw1 hB
    go_quiet ((go_at_call 33; exact Calls.quiet_of_same (HRA.out _)))
    obtain ⟨w2, hw2⟩ : ∃ w2, w2 = w1.drewN nq := ⟨_, rfl⟩
    rw [← hw2]
    have HO2 : Hid (Only (fun _ => False) w1 w2) := by rw [hw2]; exact Lib.hid ((Only.refl _ w1).drewN _)
    obtain ⟨x, hx⟩ : ∃ x, x = tAdd n dn := ⟨_, rfl⟩
    rw [← hx]
    clear hw2 hx y0 y1 y2 hn1
    obtain ⟨y0, y1, y2⟩ := HCE.out w2 HO2.out
    have HS2 : Hid (St w0 w2 g F r G n last v R) := Lib.hid ((HSt.out.only HO1.out (fun _ h => h.elim)).only HO2.out (fun _ h => h.elim))
    have HRL : Hid (R.length ≤ 1000) := Lib.hid (by have h1 := HSt.out.le; have h2 := HLA.out; omega)
    have HL0 : Hid (0 ≤ last) := Lib.hid (by have h1 := HSt.out.le; omega)
    by_cases hk : kind = 0 ∨ kind = 1 ∨ kind = 2
    · have HAD := Lib.hid (wh_add x HS2.out.a (by have := HRL.out; omega) (by have := HLA.out; omega))
      have hgo : ∀ w3 F3, WH w3 g F3 n (last + 1) (R ++ [(cl x, last + 1)]) → (∀ k, F3 k → F k ∨ w2.heap.size ≤ k) → Only F w2 w3 → Calls Try.prog 34 #[.pointer (some ⟨r, 0, none⟩), .int .i64 x] w3 fun e w' => e = .returned (.tuple #[.int .i64 (last + 1), .int .i64 0]) ∧ ∃ F' G' n' last' v' R', St w0 w' g F' r G' n' last' v' R' ∧ last' ≤ last + 1 := fun w3 F3 h3 hf3 o3 =>
        (rput_p x (HS2.out.b.only o3 (fun k hk h4 => HS2.out.ap k h4 hk)) (by have := HRL.out; omega) HL0.out (by have := HLA.out; omega) (sorted_le HS2.out.so)).mono fun e w' hh => by
          obtain ⟨he, G', v', hs', hg', ho'⟩ := hh
          exact ⟨he, F3, G', n, last + 1, v', _, HS2.out.both h3 hf3 o3 hs' hg' ho' (insR_perm _ _ _) (insR_sorted HS2.out.so (fun p hp => by have := (HS2.out.a.bd p hp).2; omega)) (by rw [insR_len]; have := HS2.out.le; omega), Int.le_refl _⟩
      have HGO := Lib.hid hgo
      clear hgo
      rcases hk with rfl | rfl | rfl <;>
      · go_upto_region 10 with (go_at_call 11; refine HAD.out.mono ?_; rintro e w3 ⟨rfl, F3, h3, hf3, o3⟩; have HP := Lib.hid (HGO.out w3 F3 h3 hf3 o3); clear h3 hf3 o3)
        go_wp2_with (go_at_call 34; refine HP.out.mono ?_; rintro e w4 ⟨rfl, hst⟩; have HST := Lib.hid hst; clear hst)
        go_ret
        exact ⟨rfl, HST.out⟩
    · have hk0 : ¬ kind = 0 := fun e => hk (.inl e)
      have hk1 : ¬ kind = 1 := fun e => hk (.inr (.inl e))
      have hk2 : ¬ kind = 2 := fun e => hk (.inr (.inr e))
      have hb0 : (kind == 0) = false := by simpa using hk0
      have hb1 : (kind == 1) = false := by simpa using hk1
      have hb2 : (kind == 2) = false := by simpa using hk2
      by_cases hk3 : kind = 3
      · subst hk3
        clear hk hk0 hk1 hk2 hb0 hb1 hb2
        have hSd := HS2.out.only ((Only.refl (fun _ => False) w2).drew) (fun _ h => h.elim)
        obtain ⟨b, hb⟩ : ∃ b, b = decide (dn ∈ R.map Prod.snd) := ⟨_, rfl⟩
        have hca := wh_cancel dn HWF.out hSd.a
        rw [← hb] at hca
        have HCA := Lib.hid hca
        have hBF : ∀ k, F k → ¬ k = B := fun k hk e => by have h1 := HSt.out.a.flt k hk; have h2 := HBW.out; omega
        have hgo : ∀ w3 F3, WH w3 g F3 n last (R.filter (fun p => decide (p.2 ≠ dn))) → (∀ k, F3 k → F k ∨ w2.drew.heap.size ≤ k) → Only F w2.drew w3 → Calls Try.prog 35 #[.pointer (some ⟨r, 0, none⟩), .int .i64 dn] w3 fun e w' => e = .returned (.bool b) ∧ (∃ F' G' n' last' v' R', St w0 w' g F' r G' n' last' v' R' ∧ last' ≤ last + 1) ∧ w'.cell? ⟨B, 1, none⟩ = some (.int .i64 dn) := fun w3 F3 h3 hf3 o3 => by
          have hrb := rcancel_p dn (hSd.b.only o3 (fun k hk h4 => hSd.ap k h4 hk)) (by have := HRL.out; omega) hSd.a.nd
          rw [← hb] at hrb
          refine hrb.mono fun e w' hh => ?_
          obtain ⟨he, G', v', hs', hg', ho'⟩ := hh
          refine ⟨he, ⟨F3, G', n, last, v', _, hSd.both h3 hf3 o3 hs' hg' ho' (.refl _) (hSd.so.sublist List.filter_sublist) (by have := hSd.le; have := List.length_filter_le (fun p : Int × Int => decide (p.2 ≠ dn)) R; omega), by omega⟩, ?_⟩
          exact ho'.cell (o3.cell y1 (fun h => hBF B h rfl)) (fun h => by have h1 := HSt.out.b.flt B h; have h2 := HBW.out; omega)
        have HGO := Lib.hid hgo
        have HBF := Lib.hid hBF
        clear hgo hSd hca hBF hb
        go_upto_region 13 with fail
        go_region_held3 (fun w' => w'.cell? ⟨B, 1, none⟩ = some (.int .i64 dn)) (first | exact y1 | exact hc3 | exact hc4) (first
          | (go_at_call 18; refine HCA.out.mono ?_; rintro e w3 ⟨rfl, F3, h3, hf3, o3⟩
             have HP := Lib.hid (HGO.out w3 F3 h3 hf3 o3)
             have hc3 := o3.cell (a := ⟨B, 1, none⟩) y1 (fun h => HBF.out B h rfl)
             clear h3 hf3 o3)
          | (go_at_call 35; refine HP.out.mono ?_; rintro e w4 ⟨rfl, hst, hc4⟩
             have HST := Lib.hid hst
             clear hst))
        all_goals
          go_wp2
          go_ret
          exact ⟨rfl, HST.out⟩
      · have hb3 : (kind == 3) = false := by simpa using hk3
        by_cases hk4 : kind = 4 ∨ kind = 5
        · clear hk hk0 hk1 hk2 hk3
          obtain ⟨e, he⟩ : ∃ e, e = mx (cl x) n := ⟨_, rfl⟩
          have HE := Lib.hid he
          have HAV := Lib.hid (wh_adv x HS2.out.a he)
          clear he
          rcases hk4 with rfl | rfl <;>
          · go_wp2_with (first
              | (go_at_call 12; refine HAV.out.mono ?_; rintro en w3 ⟨v3, F3, rfl, k3, h3, hf3, o3⟩
                 have HRV := Lib.hid (radv_p x (HS2.out.b.only o3 (fun k hk h4 => HS2.out.ap k h4 hk)) (by have := HRL.out; omega) HE.out)
                 have HK3 := Lib.hid k3
                 have HH3 := Lib.hid h3
                 have HF3 := Lib.hid hf3
                 have HO3 := Lib.hid o3
                 clear k3 h3 hf3 o3)
              | (go_at_call 37; refine HRV.out.mono ?_; rintro en w4 ⟨v4, v', i, rfl, k4, hs4, hp1, hp2, o4⟩
                 have htt := told_take HS2.out.so hp1 hp2
                 have k5 := Row.only HK3.out o4 (fun q hq e2 => by have h1 := (Row.own HK3.out hq).1.1; have h2 := HS2.out.b.flt q e2; omega)
                 rw [← htt.1] at k4
                 have HIN := Lib.hid (ints_p k5 k4 (by have h1 := out_len e R; have h2 := HRL.out; omega))
                 have HST := Lib.hid (HS2.out.both HH3.out HF3.out HO3.out hs4 (fun k hk => .inl hk) o4 (List.Perm.of_eq htt.2) (HS2.out.so.sublist (List.drop_sublist i R)) (by have h1 := HS2.out.le; rw [List.length_drop]; omega))
                 clear k4 hs4 hp1 hp2 o4 htt k5)
              | (go_at_call 36; refine HIN.out.mono ?_; rintro en w5 ⟨rfl, o5⟩
                 have HST5 := Lib.hid (HST.out.only o5 (fun _ h => h.elim))
                 clear o5))
            go_ret
            exact ⟨rfl, _, _, _, _, _, _, HST5.out, by omega⟩
        · have hk4' : ¬ kind = 4 := fun e => hk4 (.inl e)
          have hk5' : ¬ kind = 5 := fun e => hk4 (.inr e)
          have hb4 : (kind == 4) = false := by simpa using hk4'
          have hb5 : (kind == 5) = false := by simpa using hk5'
          by_cases hk6 : kind = 6
          · subst hk6
            clear hk hk0 hk1 hk2 hk3 hk4 hk4' hk5' hb0 hb1 hb2 hb3 hb4 hb5
            obtain ⟨A, b, hAB⟩ : ∃ (A : Int) (b : Bool), (∃ a, (a, dn) ∈ R ∧ A = a ∧ b = true) ∨ ((∀ p ∈ R, p.2 ≠ dn) ∧ A = 0 ∧ b = false) := by
              by_cases hin : ∃ a, (a, dn) ∈ R
              · obtain ⟨a, ha⟩ := hin
                exact ⟨a, true, .inl ⟨a, ha, rfl, rfl⟩⟩
              · exact ⟨0, false, .inr ⟨fun p hp e => hin ⟨p.1, by rw [← e]; exact hp⟩, rfl, rfl⟩⟩
            have hsame : ∀ en : Ending, ((∃ a, (a, dn) ∈ R ∧ en = .returned (.tuple #[.int .i64 a, .bool true])) ∨ ((∀ p ∈ R, p.2 ≠ dn) ∧ en = .returned (.tuple #[.int .i64 0, .bool false]))) → en = .returned (.tuple #[.int .i64 A, .bool b]) := fun en h => by
              rcases hAB with ⟨a, ha, rfl, rfl⟩ | ⟨hno, rfl, rfl⟩
              · rcases h with ⟨a', ha', rfl⟩ | ⟨hno, _⟩
                · have := one_name HS2.out.a.nd ha ha' rfl
                  injection this with this
                  rw [this]
                · exact absurd rfl (hno _ ha)
              · rcases h with ⟨a', ha', _⟩ | ⟨_, rfl⟩
                · exact absurd rfl (hno _ ha')
                · rfl
            have HTI : Hid (Calls Try.prog 20 #[.pointer (some ⟨g, 0, none⟩), .int .i64 dn] w2 fun e w' => e = .returned (.tuple #[.int .i64 A, .bool b]) ∧ Only (fun _ => False) w2 w') := Lib.hid ((wh_time dn HWF.out HS2.out.a).mono fun e w' h => ⟨hsame e h.1, h.2⟩)
            have HRT : Hid (∀ w3, Only (fun _ => False) w2 w3 → Calls Try.prog 38 #[.pointer (some ⟨r, 0, none⟩), .int .i64 dn] w3 fun e w' => e = .returned (.tuple #[.int .i64 A, .bool b]) ∧ w3 = w') := Lib.hid (fun w3 ho => (rtime_p dn (HS2.out.b.only ho (fun _ _ h => h)) (by have := HRL.out; omega)).mono fun e w' h => ⟨hsame e h.1, h.2⟩)
            have HCE2 := Lib.hid (fun W (ho : Only (fun _ => False) w2 W) => HCE.out W (HO2.out.trans ho))
            clear hAB hsame
            go_upto_region 19 with (go_at_call 20; refine HTI.out.mono ?_; rintro e w3 ⟨rfl, o3⟩; have HO3 := Lib.hid o3; clear o3)
            obtain ⟨z0, z1, z2⟩ := HCE2.out w3 HO3.out
            have HRT3 := Lib.hid (HRT.out w3 HO3.out)
            clear y0 y1 y2
            go_wp2_with (go_at_call 38; refine HRT3.out.mono ?_; rintro e w4 ⟨rfl, rfl⟩)
            go_ret
            exact ⟨rfl, _, _, _, _, _, _, HS2.out.only HO3.out (fun _ h => h.elim), by omega⟩
          · have hb6 : (kind == 6) = false := by simpa using hk6
            go_wp2
            go_ret
            exact ⟨rfl, _, _, _, _, _, _, HS2.out, by omega⟩
  | false =>
    go_upto_region 4 with fail
    rw [← hw1, ← hB]
    clear hw1 hB
    obtain ⟨w2, hw2⟩ : ∃ w2, w2 = w1 := ⟨_, rfl⟩
    rw [← hw2]
    have HO2 : Hid (Only (fun _ => False) w1 w2) := by rw [hw2]; exact Lib.hid (Only.refl _ w1)
    clear hw2 y0 y1 y2 hn1
    obtain ⟨y0, y1, y2⟩ := HCE.out w2 HO2.out
    have HS2 : Hid (St w0 w2 g F r G n last v R) := Lib.hid ((HSt.out.only HO1.out (fun _ h => h.elim)).only HO2.out (fun _ h => h.elim))
    have HRL : Hid (R.length ≤ 1000) := Lib.hid (by have h1 := HSt.out.le; have h2 := HLA.out; omega)
    have HL0 : Hid (0 ≤ last) := Lib.hid (by have h1 := HSt.out.le; omega)
    by_cases hk : kind = 0 ∨ kind = 1 ∨ kind = 2
    · have HAD := Lib.hid (wh_add dn HS2.out.a (by have := HRL.out; omega) (by have := HLA.out; omega))
      have hgo : ∀ w3 F3, WH w3 g F3 n (last + 1) (R ++ [(cl dn, last + 1)]) → (∀ k, F3 k → F k ∨ w2.heap.size ≤ k) → Only F w2 w3 → Calls Try.prog 34 #[.pointer (some ⟨r, 0, none⟩), .int .i64 dn] w3 fun e w' => e = .returned (.tuple #[.int .i64 (last + 1), .int .i64 0]) ∧ ∃ F' G' n' last' v' R', St w0 w' g F' r G' n' last' v' R' ∧ last' ≤ last + 1 := fun w3 F3 h3 hf3 o3 =>
        (rput_p dn (HS2.out.b.only o3 (fun k hk h4 => HS2.out.ap k h4 hk)) (by have := HRL.out; omega) HL0.out (by have := HLA.out; omega) (sorted_le HS2.out.so)).mono fun e w' hh => by
          obtain ⟨he, G', v', hs', hg', ho'⟩ := hh
          exact ⟨he, F3, G', n, last + 1, v', _, HS2.out.both h3 hf3 o3 hs' hg' ho' (insR_perm _ _ _) (insR_sorted HS2.out.so (fun p hp => by have := (HS2.out.a.bd p hp).2; omega)) (by rw [insR_len]; have := HS2.out.le; omega), Int.le_refl _⟩
      have HGO := Lib.hid hgo
      clear hgo
      rcases hk with rfl | rfl | rfl <;>
      · go_upto_region 10 with (go_at_call 11; refine HAD.out.mono ?_; rintro e w3 ⟨rfl, F3, h3, hf3, o3⟩; have HP := Lib.hid (HGO.out w3 F3 h3 hf3 o3); clear h3 hf3 o3)
        go_wp2_with (go_at_call 34; refine HP.out.mono ?_; rintro e w4 ⟨rfl, hst⟩; have HST := Lib.hid hst; clear hst)
        go_ret
        exact ⟨rfl, HST.out⟩
    · have hk0 : ¬ kind = 0 := fun e => hk (.inl e)
      have hk1 : ¬ kind = 1 := fun e => hk (.inr (.inl e))
      have hk2 : ¬ kind = 2 := fun e => hk (.inr (.inr e))
      have hb0 : (kind == 0) = false := by simpa using hk0
      have hb1 : (kind == 1) = false := by simpa using hk1
      have hb2 : (kind == 2) = false := by simpa using hk2
      by_cases hk3 : kind = 3
      · subst hk3
        clear hk hk0 hk1 hk2 hb0 hb1 hb2
        have hSd := HS2.out.only ((Only.refl (fun _ => False) w2).drew) (fun _ h => h.elim)
        obtain ⟨b, hb⟩ : ∃ b, b = decide (dn ∈ R.map Prod.snd) := ⟨_, rfl⟩
        have hca := wh_cancel dn HWF.out hSd.a
        rw [← hb] at hca
        have HCA := Lib.hid hca
        have hBF : ∀ k, F k → ¬ k = B := fun k hk e => by have h1 := HSt.out.a.flt k hk; have h2 := HBW.out; omega
        have hgo : ∀ w3 F3, WH w3 g F3 n last (R.filter (fun p => decide (p.2 ≠ dn))) → (∀ k, F3 k → F k ∨ w2.drew.heap.size ≤ k) → Only F w2.drew w3 → Calls Try.prog 35 #[.pointer (some ⟨r, 0, none⟩), .int .i64 dn] w3 fun e w' => e = .returned (.bool b) ∧ (∃ F' G' n' last' v' R', St w0 w' g F' r G' n' last' v' R' ∧ last' ≤ last + 1) ∧ w'.cell? ⟨B, 1, none⟩ = some (.int .i64 dn) := fun w3 F3 h3 hf3 o3 => by
          have hrb := rcancel_p dn (hSd.b.only o3 (fun k hk h4 => hSd.ap k h4 hk)) (by have := HRL.out; omega) hSd.a.nd
          rw [← hb] at hrb
          refine hrb.mono fun e w' hh => ?_
          obtain ⟨he, G', v', hs', hg', ho'⟩ := hh
          refine ⟨he, ⟨F3, G', n, last, v', _, hSd.both h3 hf3 o3 hs' hg' ho' (.refl _) (hSd.so.sublist List.filter_sublist) (by have := hSd.le; have := List.length_filter_le (fun p : Int × Int => decide (p.2 ≠ dn)) R; omega), by omega⟩, ?_⟩
          exact ho'.cell (o3.cell y1 (fun h => hBF B h rfl)) (fun h => by have h1 := HSt.out.b.flt B h; have h2 := HBW.out; omega)
        have HGO := Lib.hid hgo
        have HBF := Lib.hid hBF
        clear hgo hSd hca hBF hb
        go_upto_region 13 with fail
        go_region_held3 (fun w' => w'.cell? ⟨B, 1, none⟩ = some (.int .i64 dn)) (first | exact y1 | exact hc3 | exact hc4) (first
          | (go_at_call 18; refine HCA.out.mono ?_; rintro e w3 ⟨rfl, F3, h3, hf3, o3⟩
             have HP := Lib.hid (HGO.out w3 F3 h3 hf3 o3)
             have hc3 := o3.cell (a := ⟨B, 1, none⟩) y1 (fun h => HBF.out B h rfl)
             clear h3 hf3 o3)
          | (go_at_call 35; refine HP.out.mono ?_; rintro e w4 ⟨rfl, hst, hc4⟩
             have HST := Lib.hid hst
             clear hst))
        all_goals
          go_wp2
          go_ret
          exact ⟨rfl, HST.out⟩
      · have hb3 : (kind == 3) = false := by simpa using hk3
        by_cases hk4 : kind = 4 ∨ kind = 5
        · clear hk hk0 hk1 hk2 hk3
          obtain ⟨e, he⟩ : ∃ e, e = mx (cl dn) n := ⟨_, rfl⟩
          have HE := Lib.hid he
          have HAV := Lib.hid (wh_adv dn HS2.out.a he)
          clear he
          rcases hk4 with rfl | rfl <;>
          · go_wp2_with (first
              | (go_at_call 12; refine HAV.out.mono ?_; rintro en w3 ⟨v3, F3, rfl, k3, h3, hf3, o3⟩
                 have HRV := Lib.hid (radv_p dn (HS2.out.b.only o3 (fun k hk h4 => HS2.out.ap k h4 hk)) (by have := HRL.out; omega) HE.out)
                 have HK3 := Lib.hid k3
                 have HH3 := Lib.hid h3
                 have HF3 := Lib.hid hf3
                 have HO3 := Lib.hid o3
                 clear k3 h3 hf3 o3)
              | (go_at_call 37; refine HRV.out.mono ?_; rintro en w4 ⟨v4, v', i, rfl, k4, hs4, hp1, hp2, o4⟩
                 have htt := told_take HS2.out.so hp1 hp2
                 have k5 := Row.only HK3.out o4 (fun q hq e2 => by have h1 := (Row.own HK3.out hq).1.1; have h2 := HS2.out.b.flt q e2; omega)
                 rw [← htt.1] at k4
                 have HIN := Lib.hid (ints_p k5 k4 (by have h1 := out_len e R; have h2 := HRL.out; omega))
                 have HST := Lib.hid (HS2.out.both HH3.out HF3.out HO3.out hs4 (fun k hk => .inl hk) o4 (List.Perm.of_eq htt.2) (HS2.out.so.sublist (List.drop_sublist i R)) (by have h1 := HS2.out.le; rw [List.length_drop]; omega))
                 clear k4 hs4 hp1 hp2 o4 htt k5)
              | (go_at_call 36; refine HIN.out.mono ?_; rintro en w5 ⟨rfl, o5⟩
                 have HST5 := Lib.hid (HST.out.only o5 (fun _ h => h.elim))
                 clear o5))
            go_ret
            exact ⟨rfl, _, _, _, _, _, _, HST5.out, by omega⟩
        · have hk4' : ¬ kind = 4 := fun e => hk4 (.inl e)
          have hk5' : ¬ kind = 5 := fun e => hk4 (.inr e)
          have hb4 : (kind == 4) = false := by simpa using hk4'
          have hb5 : (kind == 5) = false := by simpa using hk5'
          by_cases hk6 : kind = 6
          · subst hk6
            clear hk hk0 hk1 hk2 hk3 hk4 hk4' hk5' hb0 hb1 hb2 hb3 hb4 hb5
            obtain ⟨A, b, hAB⟩ : ∃ (A : Int) (b : Bool), (∃ a, (a, dn) ∈ R ∧ A = a ∧ b = true) ∨ ((∀ p ∈ R, p.2 ≠ dn) ∧ A = 0 ∧ b = false) := by
              by_cases hin : ∃ a, (a, dn) ∈ R
              · obtain ⟨a, ha⟩ := hin
                exact ⟨a, true, .inl ⟨a, ha, rfl, rfl⟩⟩
              · exact ⟨0, false, .inr ⟨fun p hp e => hin ⟨p.1, by rw [← e]; exact hp⟩, rfl, rfl⟩⟩
            have hsame : ∀ en : Ending, ((∃ a, (a, dn) ∈ R ∧ en = .returned (.tuple #[.int .i64 a, .bool true])) ∨ ((∀ p ∈ R, p.2 ≠ dn) ∧ en = .returned (.tuple #[.int .i64 0, .bool false]))) → en = .returned (.tuple #[.int .i64 A, .bool b]) := fun en h => by
              rcases hAB with ⟨a, ha, rfl, rfl⟩ | ⟨hno, rfl, rfl⟩
              · rcases h with ⟨a', ha', rfl⟩ | ⟨hno, _⟩
                · have := one_name HS2.out.a.nd ha ha' rfl
                  injection this with this
                  rw [this]
                · exact absurd rfl (hno _ ha)
              · rcases h with ⟨a', ha', _⟩ | ⟨_, rfl⟩
                · exact absurd rfl (hno _ ha')
                · rfl
            have HTI : Hid (Calls Try.prog 20 #[.pointer (some ⟨g, 0, none⟩), .int .i64 dn] w2 fun e w' => e = .returned (.tuple #[.int .i64 A, .bool b]) ∧ Only (fun _ => False) w2 w') := Lib.hid ((wh_time dn HWF.out HS2.out.a).mono fun e w' h => ⟨hsame e h.1, h.2⟩)
            have HRT : Hid (∀ w3, Only (fun _ => False) w2 w3 → Calls Try.prog 38 #[.pointer (some ⟨r, 0, none⟩), .int .i64 dn] w3 fun e w' => e = .returned (.tuple #[.int .i64 A, .bool b]) ∧ w3 = w') := Lib.hid (fun w3 ho => (rtime_p dn (HS2.out.b.only ho (fun _ _ h => h)) (by have := HRL.out; omega)).mono fun e w' h => ⟨hsame e h.1, h.2⟩)
            have HCE2 := Lib.hid (fun W (ho : Only (fun _ => False) w2 W) => HCE.out W (HO2.out.trans ho))
            clear hAB hsame
            go_upto_region 19 with (go_at_call 20; refine HTI.out.mono ?_; rintro e w3 ⟨rfl, o3⟩; have HO3 := Lib.hid o3; clear o3)
            obtain ⟨z0, z1, z2⟩ := HCE2.out w3 HO3.out
            have HRT3 := Lib.hid (HRT.out w3 HO3.out)
            clear y0 y1 y2
            go_wp2_with (go_at_call 38; refine HRT3.out.mono ?_; rintro e w4 ⟨rfl, rfl⟩)
            go_ret
            exact ⟨rfl, _, _, _, _, _, _, HS2.out.only HO3.out (fun _ h => h.elim), by omega⟩
          · have hb6 : (kind == 6) = false := by simpa using hk6
            go_wp2
            go_ret
            exact ⟨rfl, _, _, _, _, _, _, HS2.out, by omega⟩

end Go.Proofs.Ytkjokpmlnnjmoaa.Wh

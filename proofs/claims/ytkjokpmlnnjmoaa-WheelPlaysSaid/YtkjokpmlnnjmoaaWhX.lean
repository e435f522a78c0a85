/- Wheel: just those up to where it goes are told, in order. -/
import Derived.Test.YtkjokpmlnnjmoaaWhH
set_option linter.unusedVariables false
set_option linter.unusedSimpArgs false
namespace Go.Proofs.Ytkjokpmlnnjmoaa.Wh
open Go.RowKit Go.Maps Go.Proofs.Ytkjokpmlnnjmoaa.Base Go.Proofs.Ytkjokpmlnnjmoaa.Rws Go.Proofs.YtkjokpmlnnjmoaaW.PrintWords Go.Proofs.YtkjokpmlnnjmoaaW.PrintMore
attribute [local go_sem] max2_mx min2_mn max_two min_two max_three min_three max_four min_four

theorem out_mem {e : Int} {K : List (Int × Int)} {h : Int} : h ∈ outK e K ↔ ∃ a, (a, h) ∈ K ∧ a ≤ e := by
  unfold outK
  rw [List.mem_map]
  constructor
  · rintro ⟨p, hp, rfl⟩
    have h1 := List.mem_filter.1 ((sortK_perm _).mem_iff.1 hp)
    exact ⟨p.1, h1.1, of_decide_eq_true h1.2⟩
  · rintro ⟨a, ha, hle⟩
    exact ⟨(a, h), (sortK_perm _).mem_iff.2 (List.mem_filter.2 ⟨ha, decide_eq_true hle⟩), rfl⟩

theorem out_nodup {e : Int} {K : List (Int × Int)} (hn : (K.map Prod.snd).Nodup) : (outK e K).Nodup := by
  unfold outK
  exact ((sortK_perm _).map Prod.snd).nodup_iff.2 (hn.sublist ((List.filter_sublist).map _))

theorem out_len (e : Int) (K : List (Int × Int)) : (restK e K).length + (outK e K).length = K.length := by
  unfold outK restK
  rw [List.length_map, (sortK_perm _).length_eq, ← List.length_append]
  have h := (List.filter_append_perm (fun p : Int × Int => decide (e < p.1)) K).length_eq
  rw [← h]
  congr 2
  refine List.filter_congr fun p _ => ?_
  by_cases h : p.1 ≤ e
  · have h' : ¬ e < p.1 := by omega
    simp [h, h']
  · have h' : e < p.1 := by omega
    simp [h, h']

/-- The times of what is told rise. -/
theorem out_rise {e : Int} {K : List (Int × Int)} (f : Int → Int) (hf : ∀ p ∈ K, p.1 = f p.2) : (outK e K).Pairwise (fun a b => f a ≤ f b) := by
  unfold outK
  rw [List.pairwise_map]
  refine (sortK_pw _).imp_of_mem fun {a b} ha hb h => ?_
  have h1 := hf a (List.mem_filter.1 ((sortK_perm _).mem_iff.1 ha)).1
  have h2 := hf b (List.mem_filter.1 ((sortK_perm _).mem_iff.1 hb)).1
  rw [← h1, ← h2]
  simp only [leK, decide_eq_true_eq] at h
  omega

/-- The time of a name. -/
def tm (l : List Int) (h : Int) : Int := cl (rd l (h - 1))
theorem tm_at {l : List Int} {j : Nat} {x : Int} (h : l[j]? = some x) : tm l ((j : Int) + 1) = cl x := by
  unfold tm rd
  have : ((j : Int) + 1 - 1).toNat = j := by omega
  rw [this, List.getD_eq_getElem?_getD, h]
  rfl
theorem added_tm {l : List Int} (p : Int × Int) (h : p ∈ added l) : p.1 = tm l p.2 := by
  obtain ⟨j, x, hj, rfl⟩ := added_mem.1 h
  exact (tm_at hj).symm

theorem out_added {e : Int} {l : List Int} {h : Int} : h ∈ outK e (added l) ↔ ∃ (j : Nat) (x : Int), l[j]? = some x ∧ h = (j : Int) + 1 ∧ cl x ≤ e := by
  rw [out_mem]
  constructor
  · rintro ⟨a, ha, hle⟩
    obtain ⟨j, x, hj, hp⟩ := added_mem.1 ha
    injection hp with h1 h2
    exact ⟨j, x, hj, h2, by rw [← h1]; exact hle⟩
  · rintro ⟨j, x, hj, rfl, hle⟩
    exact ⟨cl x, added_mem.2 ⟨j, x, hj, rfl⟩, hle⟩

theorem rd_at {l : List Int} {j : Nat} (h : j < l.length) : l[j]? = some (rd l (j : Int)) := by
  rw [List.getElem?_eq_getElem h]
  unfold rd
  simp [h]

theorem info4 : (Try.prog.info? 4).map (fun i => (i.zero, i.size, i.bytes)) = some (some (.bool false), 1, 1) := by kernel_rfl
theorem madeB (n : Nat) (h2 : n ≤ 1000) (w : World) :
    (Instr.makeSlice 31 (.int .i64 (n : Int)) (.int .i64 (n : Int))).run Try.prog w = .ok (.slice (some ⟨w.heap.size, 0, none⟩) n n) (w.alloc (.cells (madeCells #[.bool false] n) 4)) := by
  obtain ⟨i0, hi, hzz⟩ := Option.map_eq_some_iff.1 info4
  simp only [Prod.mk.injEq] at hzz
  obtain ⟨hz0, hz1, hz2⟩ := hzz
  have h := run_make (P := Try.prog) (w := w) 31 4 i0 (.bool false) Try.underlying31 hi hz0 .i64 .i64 (n : Int) (n : Int) (by omega) (by omega) (by rw [hz2]; omega) (by omega)
  rw [hz1, Nat.mul_one] at h
  exact h

/-- A row of bools that tell who is among some. -/
def TB (w : World) (tb n : Nat) (S : List Int) : Prop := ∃ cs, w.heap[tb]? = some (.cells cs 4 (0, 0)) ∧ cs.size = n ∧ ∀ k, k < n → cs[k]? = some (.bool (decide ((k : Int) + 1 ∈ S)))

theorem TB.new (w : World) (n : Nat) : TB (w.alloc (.cells (madeCells #[.bool false] n) 4)) w.heap.size n [] := by
  have hl := toList_madeCells_one (.bool false) n
  refine ⟨_, heap_alloc_new w _, ?_, fun k hk => ?_⟩
  · rw [← Array.length_toList, hl, List.length_replicate]
  · rw [← Array.getElem?_toList, hl, List.getElem?_replicate, if_pos hk]
    rfl

theorem TB.set {w : World} {tb n : Nat} {S : List Int} (h : TB w tb n S) (j : Nat) (hj : j < n) : TB (w.setCell ⟨tb, j, none⟩ (.bool true)) tb n (S ++ [(j : Int) + 1]) := by
  obtain ⟨cs, h1, h2, h3⟩ := h
  refine ⟨_, blk_set h1 j _, by simp [h2], fun k hk => ?_⟩
  rw [Array.getElem?_setIfInBounds]
  by_cases e : j = k
  · subst e
    rw [if_pos rfl, if_pos (by omega)]
    simp
  · rw [if_neg e, h3 k hk]
    have : ((k : Int) + 1 ∈ S ++ [(j : Int) + 1]) ↔ ((k : Int) + 1 ∈ S) := by
      rw [List.mem_append, List.mem_singleton]
      constructor
      · rintro (h | h)
        · exact h
        · omega
      · exact .inl
    simp only [this]

set_option maxHeartbeats 8000000 in
set_option maxRecDepth 100000 in
theorem exact_walk (now : Int) (l : List Int) (A : Option Addr) (c : Nat) (to_ : Int) (w : World) (hl : Kd.C KI w A l.length l) (hc : l.length ≤ c) :
    Calls Try.prog 3 #[.int .i64 now, .slice A l.length c, .int .i64 to_] w fun e w' => e = .returned (.bool true) ∧ Below w.heap.size w w' := by
  have HAW : Hid (∀ w, Calls Try.prog 9 #[] w fun e w' => e = .returned (.bool true) ∧ Only (fun _ => False) w w') := Lib.hid awake_p
  obtain ⟨n, hn⟩ : ∃ n, n = l.length := ⟨_, rfl⟩
  rw [← hn] at hl hc ⊢
  by_cases h100 : 100 < n
  · have hd : decide ((100 : Int) < (n : Int)) = true := decide_eq_true (by omega)
    clear hl hc hn h100
    go_enter Try.func3, Try.ntmps3
    go_wp2_with (go_at_call 9; refine (HAW.out _).mono ?_; rintro e w1 ⟨rfl, o1⟩; have O1 := Lib.hid o1; clear o1)
    go_ret
    exact ⟨rfl, below_of O1.out⟩
  have hd : decide ((100 : Int) < (n : Int)) = false := decide_eq_false (by omega)
  have HL := Lib.hid hl
  have HN := Lib.hid hn
  have HB : Hid (n ≤ 100) := Lib.hid (by omega)
  have HNW := Lib.hid (wh_new now w)
  clear hl hn h100
  go_enter Try.func3, Try.ntmps3
  go_wp2_with (go_at_call 10; refine HNW.out.mono ?_; rintro e w1 ⟨g, F, rfl, h1, hf, o1⟩; have H1 := Lib.hid h1; have HF := Lib.hid hf; have O1 := Lib.hid o1; clear h1 hf o1)
  go_loopw [8, 9, 10] (fun v8 _ _ wr => ∃ (j : Nat) (Fj : Nat → Prop), v8 = .int .i64 (j : Int) ∧ j ≤ n ∧ Hid (WH wr g Fj (cl now) (j : Int) (added (l.take j))) ∧ Hid (∀ k, Fj k → w.heap.size ≤ k) ∧ Hid (Only (fun _ => False) w wr)) (fun v8 _ _ _ => n - (RowKit.intOf v8).toNat)
  case atStart => exact ⟨0, F, rfl, Nat.zero_le _, H1, HF, O1⟩
  case round =>
    clear H1 HF O1 HNW
    obtain ⟨j, Fj, rfl, hj, HH, HF, HO⟩ := hrel
    have hgo : j < n ∨ j = n := by omega
    rcases hgo with hlt | rfl
    · have hlt' : (j : Int) < (n : Int) := by omega
      have hNb := HB.out
      obtain ⟨ad, rfl, hx⟩ := Kd.at_int HL.out (j : Int) (by omega) hlt'
      rw [Int.toNat_natCast] at hx
      have hxr : wr.cell? (ad.add j) = some (.int .i64 (rd l (j : Int))) := by
        have := (HO.out.below (Below.refl _ _) (Nat.le_refl _) (fun _ h => h.elim)).cell (World.block_lt_of_cell? w _ hx)
        rw [hx] at this
        exact this
      have hxx := rd_at (l := l) (j := j) (by rw [← HN.out]; exact hlt)
      obtain ⟨x, hxe⟩ : ∃ x, x = rd l (j : Int) := ⟨_, rfl⟩
      rw [← hxe] at hxr hxx
      have HAD := Lib.hid (wh_add x HH.out (by rw [added_len, List.length_take]; omega) (by omega))
      rw [← added_step hxx] at HAD
      clear hx hxx hxe
      go_upto_region 8 with (go_at_call 11; refine HAD.out.mono ?_; rintro e w2 ⟨rfl, F2, h2, hf2, o2⟩; have H2 := Lib.hid h2; have HF2 : Hid (∀ k, F2 k → w.heap.size ≤ k) := Lib.hid (fun k hk => by have h0 := HO.out.size; rcases hf2 k hk with h | h; exact HF.out k h; omega); have O2 : Hid (Only (fun _ => False) w w2) := Lib.hid (HO.out.then_ o2 (fun k hk => .inr (HF.out k hk))); clear h2 hf2 o2)
      go_wp2
      go_roundw
      case rel => exact ⟨j + 1, F2, by go_num, by omega, H2, HF2, O2⟩
      case measure => simp [RowKit.intOf]; omega
    · have hge : ¬ (j : Int) < j := by omega
      have hh := HH.out
      rw [HN.out, List.take_length, ← HN.out] at hh
      have HH' := Lib.hid hh
      obtain ⟨e, he⟩ : ∃ e, e = mx (cl to_) (cl now) := ⟨_, rfl⟩
      have HE := Lib.hid he
      have HAV := Lib.hid (wh_adv to_ hh he)
      clear hh HH he
      go_upto_region 11 with (go_at_call 12; refine HAV.out.mono ?_; rintro en w2 ⟨v, F2, rfl, k2, h2, hf2, o2⟩; have K2 := Lib.hid k2; have H2 := Lib.hid h2; have HF2 : Hid (∀ k, F2 k → w.heap.size ≤ k) := Lib.hid (fun k hk => by have h0 := HO.out.size; rcases hf2 k hk with h | h; exact HF.out k h; omega); have O2 : Hid (Only (fun _ => False) w w2) := Lib.hid (HO.out.then_ o2 (fun k hk => .inr (HF.out k hk))); clear k2 h2 hf2 o2)
      obtain ⟨out, hout⟩ : ∃ out, out = outK e (added l) := ⟨_, rfl⟩
      have HMEM : Hid (∀ h ∈ out, ∃ (i : Nat) (x : Int), l[i]? = some x ∧ h = (i : Int) + 1 ∧ cl x ≤ e) := Lib.hid (fun h hm => by rw [hout] at hm; exact out_added.1 hm)
      have HBACK : Hid (∀ (i : Nat) (x : Int), l[i]? = some x → cl x ≤ e → (i : Int) + 1 ∈ out) := Lib.hid (fun i x h1 h2 => by rw [hout]; exact out_added.2 ⟨i, x, h1, rfl, h2⟩)
      have HND : Hid out.Nodup := by rw [hout]; exact Lib.hid (out_nodup HH'.out.nd)
      have HRI : Hid (out.Pairwise (fun a b => tm l a ≤ tm l b)) := by rw [hout]; exact Lib.hid (out_rise (tm l) added_tm)
      have HLEN : Hid ((restK e (added l)).length + out.length = j) := by rw [hout]; exact Lib.hid (by rw [out_len, added_len]; exact HN.out.symm)
      rw [← hout] at K2
      clear hout
      obtain ⟨A2, c2, hv, _⟩ := Row.form K2.out
      obtain ⟨m, hm⟩ : ∃ m, m = out.length := ⟨_, rfl⟩
      rw [← hm] at hv
      subst hv
      have HM := Lib.hid hm
      have HMB : Hid (m ≤ 100) := Lib.hid (by have h1 := HLEN.out; have h2 := HB.out; omega)
      clear hm
      have HC1 : Hid (∀ w, Calls Try.prog 13 #[.int .i64 now] w fun e w' => e = .returned (.int .i64 (cl now)) ∧ w = w') := Lib.hid (clampR_p now)
      have HC2 : Hid (∀ w, Calls Try.prog 13 #[.int .i64 to_] w fun e w' => e = .returned (.int .i64 (cl to_)) ∧ w = w') := Lib.hid (clampR_p to_)
      have hmx : mx (cl now) (cl to_) = e := by rw [HE.out]; unfold mx; split <;> split <;> omega
      obtain ⟨y1, hy1⟩ : ∃ y, y = cl now := ⟨_, rfl⟩
      obtain ⟨y2, hy2⟩ : ∃ y, y = cl to_ := ⟨_, rfl⟩
      rw [← hy1] at HC1 hmx
      rw [← hy2] at HC2 hmx
      clear hy1 hy2
      have hmk := madeB j (by have := HB.out; omega) w2
      obtain ⟨tb, htb⟩ : ∃ tb, tb = w2.heap.size := ⟨_, rfl⟩
      obtain ⟨w3, hw3⟩ : ∃ w3, w3 = w2.alloc (.cells (madeCells #[.bool false] j) 4) := ⟨_, rfl⟩
      have HT3 : Hid (TB w3 tb j []) := by rw [hw3, htb]; exact Lib.hid (TB.new w2 j)
      have HO3 : Hid (Only (fun _ => False) w2 w3) := by rw [hw3]; exact Lib.hid ((Only.refl _ w2).alloc _)
      rw [← htb, ← hw3] at hmk
      have HTB := Lib.hid htb
      clear htb hw3
      go_upto_region 14 with (first | (go_at_call 13; with_reducible refine (HC1.out _).mono ?_; rintro e w' ⟨rfl, rfl⟩) | (go_at_call 13; with_reducible refine (HC2.out _).mono ?_; rintro e w' ⟨rfl, rfl⟩))
      clear hmx hmk HC1 HC2
      have HK3 : Hid (Ks w3 (fun k => w.heap.size ≤ k ∧ ¬ F2 k) (.slice A2 m c2) out) := Lib.hid (Row.to (Row.only K2.out HO3.out (fun _ _ h => h)) (fun k hk => ⟨by have h1 := (Row.own K2.out hk).1.1; have h2 := HO.out.size; omega, (Row.own K2.out hk).1.2⟩))
      have HW3 : Hid (WH w3 g F2 e (j : Int) (restK e (added l))) := Lib.hid (H2.out.only HO3.out (fun _ _ h => h))
      have HOW : Hid (Only (fun _ => False) w w3) := Lib.hid (O2.out.trans HO3.out)
      have HTF : Hid (¬ F2 tb ∧ w.heap.size ≤ tb) := Lib.hid ⟨fun hF => by have h1 := H2.out.flt tb hF; have h2 := HTB.out; omega, by have h1 := O2.out.size; have h2 := HTB.out; omega⟩
      have HNE : Hid (∀ q, (Value.slice A2 m c2).ownBlock = some q → ¬ q = tb) := Lib.hid (fun q hq e2 => by have h1 := (Row.own K2.out hq).2; have h2 := HTB.out; omega)
      clear HAV K2 H2 O2 HO3 HO HF
      go_loopw [14, 15] (fun v14 _ wr => ∃ (i : Nat), v14 = .int .i64 (i : Int) ∧ i ≤ m ∧ Hid (TB wr tb j (out.take i)) ∧ Hid (Only (fun k => k = tb) w3 wr)) (fun v14 _ _ => m - (RowKit.intOf v14).toNat)
      case atStart => exact ⟨0, rfl, Nat.zero_le _, HT3, Lib.hid (Only.refl _ _)⟩
      case round =>
        obtain ⟨i, rfl, hi, HTI, HOI⟩ := hrel
        have hgo2 : i < m ∨ i = m := by omega
        rcases hgo2 with hlt | rfl
        · have hlt' : (i : Int) < (m : Int) := by omega
          have hmB := HMB.out
          have hio : i < out.length := by rw [← HM.out]; exact hlt
          have hge : out[i]? = some out[i] := List.getElem?_eq_getElem hio
          obtain ⟨p, x, hp, hh, hle⟩ := HMEM.out _ (List.getElem_mem hio)
          rw [hh] at hge
          have HGE := Lib.hid hge
          have HP := Lib.hid hp
          have hpj : p < j := by rw [HN.out]; exact (List.getElem?_eq_some_iff.1 hp).1
          have hpB := HB.out
          have hKr := Row.only HK3.out HOI.out HNE.out
          rw [← HM.out] at hKr
          obtain ⟨q2, o2, c3, hs, _⟩ := Row.some_ hKr (by omega)
          injection hs with e1 e2 e3
          subst e1 e3
          have hx0 : wr.cell? ⟨q2, o2 + i, none⟩ = some (.int .i64 ((p : Int) + 1)) := Row.cell hKr i (by rw [List.getElem?_map, hge]; rfl)
          have hnot : ((p : Int) + 1) ∉ out.take i := fun hm => by
            obtain ⟨k, hk, hke⟩ := List.getElem_of_mem hm
            rw [List.length_take] at hk
            rw [List.getElem_take] at hke
            have hn := List.nodup_iff_pairwise_ne.1 HND.out
            rw [List.pairwise_iff_getElem] at hn
            exact hn k i (by omega) hio (by omega) (by rw [hke, hh])
          obtain ⟨cs, hcs, hcz, hcc⟩ := HTI.out
          have ht0 : wr.cell? ⟨tb, p, none⟩ = some (.bool false) := cell_at hcs p (by rw [hcc p hpj, decide_eq_false hnot])
          have hf0 : wr.frozen? ⟨tb, p, none⟩ = false := blk_frozen hcs p
          obtain ⟨ad, rfl, hxa⟩ := Kd.at_int HL.out (p : Int) (by omega) (by omega)
          rw [Int.toNat_natCast] at hxa
          have hxp : rd l (p : Int) = x := by
            have h1 := rd_at (l := l) (j := p) (by rw [← HN.out]; exact hpj)
            rw [hp] at h1
            injection h1 with h1
            exact h1.symm
          have hOw : Only (fun _ => False) w wr := HOW.out.then_ HOI.out (fun k hk => .inr (by rw [hk]; exact HTF.out.2))
          have hxr : wr.cell? (ad.add p) = some (.int .i64 x) := by
            have := (hOw.below (Below.refl _ _) (Nat.le_refl _) (fun _ h => h.elim)).cell (World.block_lt_of_cell? w _ hxa)
            rw [hxa, hxp] at this
            exact this
          have hd1 : decide (((p : Int) + 1) < 1) = false := decide_eq_false (by omega)
          have hd2 : decide ((j : Int) < (p : Int) + 1) = false := decide_eq_false (by omega)
          have hd3 : decide (e < cl x) = false := decide_eq_false (by omega)
          have HCA : Hid (∀ a w, Calls Try.prog 13 #[.int .i64 a] w fun e w' => e = .returned (.int .i64 (cl a)) ∧ w' = w) := Lib.hid (fun a w => (clampR_p a w).mono fun _ _ h => ⟨h.1, h.2.symm⟩)
          obtain ⟨w4, hw4⟩ : ∃ w4, w4 = wr.setCell ⟨tb, p, none⟩ (.bool true) := ⟨_, rfl⟩
          have HT4 : Hid (TB w4 tb j (out.take (i + 1))) := by
            rw [hw4, List.take_add_one, hge]
            exact Lib.hid (HTI.out.set p hpj)
          have ho4 : Only (fun k => k = tb) wr w4 := by rw [hw4]; exact (Only.refl (fun k => k = tb) wr).setCell (p := ⟨tb, p, none⟩) (.inl rfl) _
          have HO4 : Hid (Only (fun k => k = tb) w3 w4) := Lib.hid (HOI.out.trans ho4)
          have hw0 : Only (fun _ => False) w w4 := HOW.out.then_ HO4.out (fun k hk => .inr (by rw [hk]; exact HTF.out.2))
          have hK4 := Row.only hKr ho4 HNE.out
          have hxl : ∀ (p : Nat) (x : Int), l[p]? = some x → w4.cell? (ad.add p) = some (.int .i64 x) := fun p x hp => by
            have hpl := (List.getElem?_eq_some_iff.1 hp).1
            obtain ⟨ad', e1, h1⟩ := Kd.at_int HL.out (p : Int) (by omega) (by have := HN.out; omega)
            injection e1 with e1
            subst e1
            rw [Int.toNat_natCast] at h1
            have h2 := (hw0.below (Below.refl _ _) (Nat.le_refl _) (fun _ h => h.elim)).cell (World.block_lt_of_cell? w _ h1)
            rw [h1] at h2
            have h3 := rd_at (l := l) (j := p) hpl
            rw [hp] at h3
            injection h3 with h3
            rw [h2, ← h3]
          have hy0 : w4.cell? ⟨q2, o2 + i, none⟩ = some (.int .i64 ((p : Int) + 1)) := Row.cell hK4 i (by rw [List.getElem?_map, hge]; rfl)
          have hyr := hxl p x hp
          have HXL := Lib.hid hxl
          have HK4 := Lib.hid hK4
          have HH := Lib.hid hh
          have HIO := Lib.hid hio
          clear hge hp hh hle hKr hnot hcs hcz hcc hxa hxp hOw ho4 hw0 hK4 hxl
          go_upto_region 20 with (go_at_call 13; refine (HCA.out _ _).mono ?_; rintro e w' ⟨rfl, rfl⟩)
          rw [← hw4]
          clear hw4 hx0 ht0 hf0 hxr
          by_cases h0 : i = 0
          · have hd0 : decide ((0 : Int) < (i : Int)) = false := decide_eq_false (by omega)
            go_quiet ((go_at_call 13; exact Calls.quiet_of_same (HCA.out _ _)))
            go_wp2
            go_roundw
            case rel => exact ⟨i + 1, by go_num, by omega, Lib.hid (show TB w4 tb j _ from HT4.out), Lib.hid (HO4.out.drewN _)⟩
            case measure => simp [RowKit.intOf]; omega
          · have hd0 : decide ((0 : Int) < (i : Int)) = true := decide_eq_true (by omega)
            obtain ⟨k, rfl⟩ : ∃ k, i = k + 1 := ⟨i - 1, by omega⟩
            obtain ⟨p', x', hp', hh', hle'⟩ := HMEM.out _ (List.getElem_mem (show k < out.length by have := HIO.out; omega))
            have hge' : out[k]? = some ((p' : Int) + 1) := by rw [← hh']; exact List.getElem?_eq_getElem _
            have hz0 : w4.cell? ⟨q2, o2 + k, none⟩ = some (.int .i64 ((p' : Int) + 1)) := Row.cell HK4.out k (by rw [List.getElem?_map, hge']; rfl)
            have hzr := HXL.out p' x' hp'
            have hpj' : p' < j := by rw [HN.out]; exact (List.getElem?_eq_some_iff.1 hp').1
            have hd4 : decide (cl x < cl x') = false := decide_eq_false (by
              have h1 := HRI.out
              rw [List.pairwise_iff_getElem] at h1
              have h2 := h1 k (k + 1) (by have := HIO.out; omega) HIO.out (by omega)
              rw [hh', HH.out, tm_at hp', tm_at HP.out] at h2
              omega)
            clear hp' hh' hle' hge'
            go_quiet ((go_at_call 13; exact Calls.quiet_of_same (HCA.out _ _)))
            go_wp2
            go_roundw
            case rel => exact ⟨(k + 1) + 1, by go_num, by omega, Lib.hid (show TB w4 tb j _ from HT4.out), Lib.hid (HO4.out.drewN _)⟩
            case measure => simp [RowKit.intOf]; omega
        · have hge : ¬ (i : Int) < i := by omega
          have HT5 : Hid (TB wr tb j out) := Lib.hid (by have h := HTI.out; rw [HM.out, List.take_length] at h; exact h)
          have HOv : Hid (Only (fun _ => False) w wr) := Lib.hid (HOW.out.then_ HOI.out (fun k hk => .inr (by rw [hk]; exact HTF.out.2)))
          have HWv : Hid (WH wr g F2 e (j : Int) (restK e (added l))) := Lib.hid (HW3.out.only HOI.out (fun k hk e2 => HTF.out.1 (by rw [← e2]; exact hk)))
          clear HTI HOI
          go_upto_region 23 with fail
          obtain ⟨w5, hw5⟩ : ∃ w5, w5 = wr := ⟨_, rfl⟩
          rw [← hw5] at HT5 HOv HWv ⊢
          clear hw5
          have HCA : Hid (∀ a w, Calls Try.prog 13 #[.int .i64 a] w fun e w' => e = .returned (.int .i64 (cl a)) ∧ w = w') := Lib.hid clampR_p
          go_loopw [16] (fun v16 wr => ∃ (p : Nat), v16 = .int .i64 (p : Int) ∧ p ≤ j ∧ wr = w5) (fun v16 _ => j - (RowKit.intOf v16).toNat)
          case atStart => exact ⟨0, rfl, Nat.zero_le _, rfl⟩
          case round =>
            obtain ⟨p, rfl, hp, rfl⟩ := hrel
            have hgo3 : p < j ∨ p = j := by omega
            rcases hgo3 with hlt | rfl
            · have hlt' : (p : Int) < (j : Int) := by omega
              have hjB := HB.out
              obtain ⟨cs, hcs, hcz, hcc⟩ := HT5.out
              have ht0 : wr.cell? ⟨tb, p, none⟩ = some (.bool (decide ((p : Int) + 1 ∈ out))) := cell_at hcs p (hcc p hlt)
              by_cases hin : (p : Int) + 1 ∈ out
              · rw [decide_eq_true hin] at ht0
                clear hcs hcz hcc
                go_wp2
                go_roundw
                case rel => exact ⟨p + 1, by go_num, by omega, trivial⟩
                case measure => simp [RowKit.intOf]; omega
              · rw [decide_eq_false hin] at ht0
                obtain ⟨ad, rfl, hxa⟩ := Kd.at_int HL.out (p : Int) (by omega) hlt'
                rw [Int.toNat_natCast] at hxa
                have hxx := rd_at (l := l) (j := p) (by rw [← HN.out]; exact hlt)
                obtain ⟨x, hx⟩ : ∃ x, x = rd l (p : Int) := ⟨_, rfl⟩
                rw [← hx] at hxa hxx
                have hxr : wr.cell? (ad.add p) = some (.int .i64 x) := by
                  have := (HOv.out.below (Below.refl _ _) (Nat.le_refl _) (fun _ h => h.elim)).cell (World.block_lt_of_cell? w _ hxa)
                  rw [hxa] at this
                  exact this
                have hd5 : decide (cl x ≤ e) = false := decide_eq_false (fun hle => hin (HBACK.out p x hxx hle))
                clear hcs hcz hcc hxa hx hxx
                go_wp2_with (go_at_call 13; refine (HCA.out _ _).mono ?_; rintro e w' ⟨rfl, rfl⟩)
                go_roundw
                case rel => exact ⟨p + 1, by go_num, by omega, trivial⟩
                case measure => simp [RowKit.intOf]; omega
            · have hge3 : ¬ (p : Int) < p := by omega
              have HLE := Lib.hid (wh_len HWv.out)
              obtain ⟨r, hr⟩ : ∃ r, r = (restK e (added l)).length := ⟨_, rfl⟩
              rw [← hr] at HLE
              have hrm : (r : Int) = (p : Int) - (i : Int) := by have h1 := HLEN.out; have h2 := HM.out; omega
              rw [hrm] at HLE
              have hpB := HB.out
              have hiB := HMB.out
              clear hr hrm
              go_wp2_with (first | (go_at_call 14; refine HLE.out.mono ?_; rintro e w' ⟨rfl, rfl⟩) | (go_at_call 9; refine (HAW.out _).mono ?_; rintro e w6 ⟨rfl, o6⟩; have O6 := Lib.hid o6; clear o6))
              go_ret
              exact ⟨rfl, below_of (HOv.out.trans O6.out)⟩

end Go.Proofs.Ytkjokpmlnnjmoaa.Wh

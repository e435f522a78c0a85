/- Wheel: to go on at once, or in any steps, tells the same ones. -/
import Derived.Test.YtkjokpmlnnjmoaaWhY
set_option linter.unusedVariables false
set_option linter.unusedSimpArgs false
namespace Go.Proofs.Ytkjokpmlnnjmoaa.Wh
open Go.RowKit Go.Maps Go.Proofs.Ytkjokpmlnnjmoaa.Base Go.Proofs.Ytkjokpmlnnjmoaa.Rws Go.Proofs.YtkjokpmlnnjmoaaW.PrintWords Go.Proofs.YtkjokpmlnnjmoaaW.PrintMore
attribute [local go_sem] max2_mx min2_mn max_two min_two max_three min_three max_four min_four

theorem rest_rest {a b : Int} (K : List (Int × Int)) (h : a ≤ b) : restK b (restK a K) = restK b K := by
  unfold restK
  rw [List.filter_filter]
  refine List.filter_congr fun p _ => ?_
  by_cases h1 : b < p.1
  · have h2 : a < p.1 := by omega
    simp [h1, h2]
  · simp [h1]

theorem out_out {a b : Int} (K : List (Int × Int)) (h : a ≤ b) : outK a K ++ outK b (restK a K) = outK b K := by
  unfold outK
  rw [← List.map_append]
  congr 1
  refine sortK_of ?_ ?_
  · refine (List.Perm.append (sortK_perm _) (sortK_perm _)).trans ?_
    unfold restK
    rw [List.filter_filter]
    have h2 := List.filter_append_perm (fun p : Int × Int => decide (p.1 ≤ a)) (K.filter (fun p => decide (p.1 ≤ b)))
    rw [List.filter_filter, List.filter_filter] at h2
    refine List.Perm.trans (List.Perm.of_eq ?_) h2
    congr 1
    · refine List.filter_congr fun p _ => ?_
      by_cases h1 : p.1 ≤ a
      · have h3 : p.1 ≤ b := by omega
        simp [h1, h3]
      · simp [h1]
    · refine List.filter_congr fun p _ => ?_
      by_cases h1 : p.1 ≤ a
      · have h3 : ¬ a < p.1 := by omega
        simp [h1, h3]
      · have h3 : a < p.1 := by omega
        simp [h1, h3]
  · rw [List.pairwise_append]
    refine ⟨sortK_pw _, sortK_pw _, fun p hp q hq => ?_⟩
    have h1 := of_decide_eq_true (List.mem_filter.1 ((sortK_perm _).mem_iff.1 hp)).2
    have h2 := of_decide_eq_true (List.mem_filter.1 (List.mem_filter.1 ((sortK_perm _).mem_iff.1 hq)).1).2
    unfold leK
    exact decide_eq_true (by omega)

theorem Ks.all {W : World} {P P2 : Nat → Prop} {v v2 : Value} {L L2 : List Int} (h : Ks W P v L) (h2 : Ks W P2 v2 L2) (hP : ∀ k, W.heap.size ≤ k → P k) (hb : L.length + L2.length ≤ 100000) (ty : TypeId) :
    ∃ v1 w1, (Builtin.append_ #[22, 22] ty #[v, v2]).run Try.prog W = .ok v1 w1 ∧ Ks w1 P v1 (L ++ L2) ∧ Only (fun k => v.ownBlock = some k) W w1 := by
  by_cases hn : L2.length = 0
  · obtain ⟨A, c, hv, _⟩ := Row.form h2
    rw [hn] at hv
    have h0 : L2 = [] := List.length_eq_zero_iff.1 hn
    rw [hv, h0, List.append_nil]
    exact ⟨v, W, Row.app0 h Try.underlying22 info3 A c, h, Only.refl _ _⟩
  · obtain ⟨q, o, c, hv, hc⟩ := Row.some_ h2 (by omega)
    unfold Ks at h2
    rw [hv] at h2 ⊢
    obtain ⟨v1, w1, hr, hR, ho⟩ := Row.app (ty := ty) h Try.underlying22 info3 (by rfl) hP ⟨q, o, none⟩ L2.length c (L2.map (Value.int .i64)) (by simp) (fun j u hu => by
      rw [Addr.add_lit]
      exact Row.cell h2 j hu) (fun u hu => by
      obtain ⟨t, _, rfl⟩ := List.mem_map.1 hu
      rfl) (by omega) hb (by omega)
    refine ⟨v1, w1, hr, ?_, ho⟩
    unfold Ks
    rw [List.length_append, List.map_append]
    exact hR

/-- What has been told piece by piece. -/
def Told (now n : Int) (K Kb : List (Int × Int)) (P : List Int) : Prop := (P = [] ∧ Kb = K ∧ n = now) ∨ (P = outK n K ∧ Kb = restK n K)

theorem Told.step {now n e : Int} {K Kb : List (Int × Int)} {P : List Int} (h : Told now n K Kb P) (he : n ≤ e) : P ++ outK e Kb = outK e K ∧ restK e Kb = restK e K := by
  rcases h with ⟨rfl, rfl, _⟩ | ⟨rfl, rfl⟩
  · exact ⟨rfl, rfl⟩
  · exact ⟨out_out K he, rest_rest K he⟩

/-- Two wheels side by side. -/
structure Two (w0 w : World) (ga : Nat) (Fa : Nat → Prop) (gb : Nat) (Fb : Nat → Prop) (na la : Int) (Ka : List (Int × Int)) (nb lb : Int) (Kb : List (Int × Int)) : Prop where
  a : WH w ga Fa na la Ka
  b : WH w gb Fb nb lb Kb
  ap : ∀ k, Fa k → ¬ Fb k
  fa : ∀ k, Fa k → w0.heap.size ≤ k
  fb : ∀ k, Fb k → w0.heap.size ≤ k
  on : Only (fun _ => False) w0 w

section
variable {w0 w w' : World} {ga gb : Nat} {Fa Fb F' : Nat → Prop} {na la nb lb n' l' : Int} {Ka Kb K' : List (Int × Int)}
theorem Two.setA (h : Two w0 w ga Fa gb Fb na la Ka nb lb Kb) (h1 : WH w' ga F' n' l' K') (hf : ∀ k, F' k → Fa k ∨ w.heap.size ≤ k) (ho : Only Fa w w') : Two w0 w' ga F' gb Fb n' l' K' nb lb Kb :=
  ⟨h1, h.b.only ho (fun i hi h2 => h.ap i h2 hi), fun k hk h2 => by rcases hf k hk with h3 | h3; exact h.ap k h3 h2; have := h.b.flt k h2; omega,
    fun k hk => by rcases hf k hk with h3 | h3; exact h.fa k h3; have := h.on.size; omega, h.fb, h.on.then_ ho (fun k hk => .inr (h.fa k hk))⟩
theorem Two.setB (h : Two w0 w ga Fa gb Fb na la Ka nb lb Kb) (h1 : WH w' gb F' n' l' K') (hf : ∀ k, F' k → Fb k ∨ w.heap.size ≤ k) (ho : Only Fb w w') : Two w0 w' ga Fa gb F' na la Ka n' l' K' :=
  ⟨h.a.only ho (fun i hi h2 => h.ap i hi h2), h1, fun k hk h2 => by rcases hf k h2 with h3 | h3; exact h.ap k hk h3; have := h.a.flt k hk; omega,
    h.fa, fun k hk => by rcases hf k hk with h3 | h3; exact h.fb k h3; have := h.on.size; omega, h.on.then_ ho (fun k hk => .inr (h.fb k hk))⟩
theorem Two.only (h : Two w0 w ga Fa gb Fb na la Ka nb lb Kb) {S : Nat → Prop} (ho : Only S w w') (hs : ∀ k, S k → w0.heap.size ≤ k ∧ ¬ Fa k ∧ ¬ Fb k) : Two w0 w' ga Fa gb Fb na la Ka nb lb Kb :=
  ⟨h.a.only ho (fun i hi h2 => (hs i h2).2.1 hi), h.b.only ho (fun i hi h2 => (hs i h2).2.2 hi), h.ap, h.fa, h.fb, h.on.then_ ho (fun k hk => .inr (hs k hk).1)⟩
end

set_option maxHeartbeats 8000000 in
set_option maxRecDepth 100000 in
theorem pieces_walk (now : Int) (l : List Int) (A : Option Addr) (c : Nat) (st : List Int) (B : Option Addr) (d : Nat) (to_ : Int) (w : World) (hl : Kd.C KI w A l.length l) (hc : l.length ≤ c) (hs : Kd.C KI w B st.length st) (hd : st.length ≤ d) :
    Calls Try.prog 4 #[.int .i64 now, .slice A l.length c, .slice B st.length d, .int .i64 to_] w fun e w' => e = .returned (.bool true) ∧ Below w.heap.size w w' := by
  have HAW : Hid (∀ w, Calls Try.prog 9 #[] w fun e w' => e = .returned (.bool true) ∧ Only (fun _ => False) w w') := Lib.hid awake_p
  obtain ⟨n, hn⟩ : ∃ n, n = l.length := ⟨_, rfl⟩
  rw [← hn] at hl hc ⊢
  obtain ⟨ns, hns⟩ : ∃ ns, ns = st.length := ⟨_, rfl⟩
  rw [← hns] at hs hd ⊢
  by_cases h100 : 100 < n
  · have hdd : decide ((100 : Int) < (n : Int)) = true := decide_eq_true (by omega)
    clear hl hc hn h100 hs hd hns
    go_enter Try.func4, Try.ntmps4
    go_wp2_with (go_at_call 9; refine (HAW.out _).mono ?_; rintro e w1 ⟨rfl, o1⟩; have O1 := Lib.hid o1; clear o1)
    go_ret
    exact ⟨rfl, below_of O1.out⟩
  have hdd : decide ((100 : Int) < (n : Int)) = false := decide_eq_false (by omega)
  by_cases h50 : 50 < ns
  · have hdd2 : decide ((50 : Int) < (ns : Int)) = true := decide_eq_true (by omega)
    clear hl hc hn h100 hs hd hns h50
    go_enter Try.func4, Try.ntmps4
    go_wp2_with (go_at_call 9; refine (HAW.out _).mono ?_; rintro e w1 ⟨rfl, o1⟩; have O1 := Lib.hid o1; clear o1)
    go_ret
    exact ⟨rfl, below_of O1.out⟩
  have hdd2 : decide ((50 : Int) < (ns : Int)) = false := decide_eq_false (by omega)
  have HL := Lib.hid hl
  have HN := Lib.hid hn
  have HB : Hid (n ≤ 100) := Lib.hid (by omega)
  have HSL := Lib.hid hs
  have HNS := Lib.hid hns
  have HBS : Hid (ns ≤ 50) := Lib.hid (by omega)
  have HNW := Lib.hid (wh_new now w)
  have HCA : Hid (∀ a w, Calls Try.prog 13 #[.int .i64 a] w fun e w' => e = .returned (.int .i64 (cl a)) ∧ w = w') := Lib.hid clampR_p
  clear hl hn h100 hs hns h50
  go_enter Try.func4, Try.ntmps4
  go_upto_region 4 with (first
    | (go_at_call 10; with_reducible refine HN2.out.mono ?_; rintro e w2 ⟨gb, Fb, rfl, h2, hf2, o2⟩
       have HTW : Hid (Two w w2 ga Fa gb Fb (cl now) 0 [] (cl now) 0 []) := Lib.hid ⟨H1.out.only o2 (fun _ _ h => h), h2, fun k hk h => by have h3 := H1.out.flt k hk; have h4 := hf2 k h; omega, HF1.out, fun k hk => by have h3 := O1.out.size; have h4 := hf2 k hk; omega, O1.out.trans o2⟩
       clear h2 hf2 o2)
    | (go_at_call 10; with_reducible refine HNW.out.mono ?_; rintro e w1 ⟨ga, Fa, rfl, h1, hf1, o1⟩
       have H1 := Lib.hid h1
       have HF1 := Lib.hid hf1
       have O1 := Lib.hid o1
       have HN2 := Lib.hid (wh_new now w1)
       clear h1 hf1 o1))
  clear H1 HF1 O1 HN2 HNW
  go_upto_region 5 with fail
  go_loopw [11] (fun v11 wr => ∃ (j : Nat) (Fa Fb : Nat → Prop), v11 = .int .i64 (j : Int) ∧ j ≤ n ∧ Hid (Two w wr ga Fa gb Fb (cl now) (j : Int) (added (l.take j)) (cl now) (j : Int) (added (l.take j)))) (fun v11 _ => n - (RowKit.intOf v11).toNat)
  case atStart => exact ⟨0, Fa, Fb, rfl, Nat.zero_le _, HTW⟩
  case round =>
    clear HTW
    obtain ⟨j, Fa, Fb, rfl, hj, HT⟩ := hrel
    have hgo : j < n ∨ j = n := by omega
    rcases hgo with hlt | rfl
    · have hlt' : (j : Int) < (n : Int) := by omega
      have hNb := HB.out
      obtain ⟨ad, rfl, hx⟩ := Kd.at_int HL.out (j : Int) (by omega) hlt'
      rw [Int.toNat_natCast] at hx
      have hxx := rd_at (l := l) (j := j) (by rw [← HN.out]; exact hlt)
      obtain ⟨x, hxe⟩ : ∃ x, x = rd l (j : Int) := ⟨_, rfl⟩
      rw [← hxe] at hx hxx
      have HX : Hid (∀ w1, Only (fun _ => False) w w1 → w1.cell? (ad.add j) = some (.int .i64 x)) := Lib.hid (fun w1 ho => by
        have := (ho.below (Below.refl _ _) (Nat.le_refl _) (fun _ h => h.elim)).cell (World.block_lt_of_cell? w _ hx)
        rw [hx] at this
        exact this)
      have hxr := HX.out wr HT.out.on
      have hst := added_step hxx
      have hlen : (added (l.take j)).length < 4096 := by rw [added_len, List.length_take]; omega
      have had := wh_add x HT.out.a hlen (by omega)
      rw [← hst] at had
      have HAD := Lib.hid had
      have HST := Lib.hid hst
      have HLN := Lib.hid hlen
      clear hx hxx hxe had hst hlen
      go_upto_region 8 with (go_at_call 11; refine HAD.out.mono ?_; rintro e w2 ⟨rfl, F2, h2, hf2, o2⟩; have HT2 := Lib.hid (HT.out.setA h2 hf2 o2); clear h2 hf2 o2)
      have hxr2 := HX.out w2 HT2.out.on
      have had := wh_add x HT2.out.b HLN.out (by omega)
      rw [← HST.out] at had
      have HAD2 := Lib.hid had
      clear had
      go_wp2_with (go_at_call 11; refine HAD2.out.mono ?_; rintro e w3 ⟨rfl, F3, h3, hf3, o3⟩; have HT3 := Lib.hid (HT2.out.setB h3 hf3 o3); clear h3 hf3 o3)
      go_roundw
      case rel => exact ⟨j + 1, F2, F3, by go_num, by omega, HT3⟩
      case measure => simp [RowKit.intOf]; omega
    · have hge : ¬ (j : Int) < j := by omega
      have ht := HT.out
      rw [HN.out, List.take_length, ← HN.out] at ht
      have HT0 := Lib.hid ht
      clear ht HT
      obtain ⟨E, hE⟩ : ∃ E, E = mx (cl to_) (cl now) := ⟨_, rfl⟩
      have HE := Lib.hid hE
      have HEB : Hid (cl to_ ≤ E ∧ cl now ≤ E) := Lib.hid (by rw [hE]; unfold mx; split <;> omega)
      clear hE
      obtain ⟨K, hK⟩ : ∃ K, K = added l := ⟨_, rfl⟩
      rw [← hK] at HT0
      have HKL : Hid (K.length ≤ 100) := Lib.hid (by rw [hK, added_len, ← HN.out]; exact HB.out)
      have HKN : Hid (K.length = j) := Lib.hid (by rw [hK, added_len, ← HN.out])
      clear hK
      go_upto_region 11 with fail
      go_loopw [12, 13] (fun v12 v13 wr => ∃ (i : Nat) (Fb : Nat → Prop) (nb : Int) (Kb : List (Int × Int)) (P : List Int), v13 = .int .i64 (i : Int) ∧ i ≤ ns ∧ Hid (Two w wr ga Fa gb Fb (cl now) (j : Int) K nb (j : Int) Kb) ∧ Hid (Told (cl now) nb K Kb P) ∧ Hid (cl now ≤ nb ∧ nb ≤ E) ∧ Hid (Ks wr (fun k => w.heap.size ≤ k ∧ ¬ Fa k ∧ ¬ Fb k) v12 P)) (fun _ v13 _ => ns - (RowKit.intOf v13).toNat)
      case atStart => exact ⟨0, Fb, cl now, K, [], rfl, Nat.zero_le _, HT0, Lib.hid (.inl ⟨rfl, rfl, rfl⟩), Lib.hid ⟨Int.le_refl _, HEB.out.2⟩, Lib.hid (Row.nil _ _ _ _)⟩
      case round =>
        clear HT0
        obtain ⟨i, Fb, nb, Kb, P, rfl, hi, HT, HTD, HNB, HKP⟩ := hrel
        have hgo2 : i < ns ∨ i = ns := by omega
        rcases hgo2 with hlt | rfl
        · have hlt' : (i : Int) < (ns : Int) := by omega
          have hNb := HBS.out
          obtain ⟨ad, rfl, hx⟩ := Kd.at_int HSL.out (i : Int) (by omega) hlt'
          rw [Int.toNat_natCast] at hx
          obtain ⟨x, hxe⟩ : ∃ x, x = rd st (i : Int) := ⟨_, rfl⟩
          rw [← hxe] at hx
          have hxr : wr.cell? (ad.add i) = some (.int .i64 x) := by
            have := (HT.out.on.below (Below.refl _ _) (Nat.le_refl _) (fun _ h => h.elim)).cell (World.block_lt_of_cell? w _ hx)
            rw [hx] at this
            exact this
          clear hx hxe
          by_cases hle : cl x ≤ cl to_
          · have hd5 : decide (cl x ≤ cl to_) = true := decide_eq_true hle
            obtain ⟨e, he⟩ : ∃ e, e = mx (cl x) nb := ⟨_, rfl⟩
            have hav := wh_adv x HT.out.b he
            have HEN : Hid (nb ≤ e ∧ e ≤ E) := Lib.hid (by have h1 := HNB.out; have h2 := HEB.out; rw [he]; unfold mx; split <;> omega)
            have hst := HTD.out.step HEN.out.1
            have HAV := Lib.hid hav
            have HST := Lib.hid hst
            clear hle he hav hst
            go_upto_region 14 with (go_at_call 13; refine (HCA.out _ _).mono ?_; rintro e w' ⟨rfl, rfl⟩)
            go_wp2_with (first
              | (go_at_call 12; refine HAV.out.mono ?_; rintro en w2 ⟨v2, F2, rfl, k2, h2, hf2, o2⟩
                 have HT2 := Lib.hid (HT.out.setB h2 hf2 o2)
                 have hkp : Ks w2 (fun k => w.heap.size ≤ k ∧ ¬ Fa k ∧ ¬ F2 k) u12 P := Row.to (Row.only HKP.out o2 (fun q hq e => (Row.own HKP.out hq).1.2.2 e)) (fun q hq => ⟨(Row.own HKP.out hq).1.1, (Row.own HKP.out hq).1.2.1, fun hF => by
                   rcases hf2 q hF with h5 | h5
                   · exact (Row.own HKP.out hq).1.2.2 h5
                   · have := (Row.own HKP.out hq).2; omega⟩)
                 have hlen : P.length + (outK e Kb).length ≤ 100000 := by
                   have h6 := congrArg List.length HST.out.1
                   rw [List.length_append] at h6
                   have h7 := out_len e K
                   have h8 := HKL.out
                   omega
                 obtain ⟨v3, w3, hr3, k3, o3⟩ := Ks.all hkp k2 (fun q hq => ⟨by have := HT2.out.on.size; omega, fun hF => by have := HT2.out.a.flt q hF; omega, fun hF => by have := HT2.out.b.flt q hF; omega⟩) hlen 22
                 rw [HST.out.1] at k3
                 have HR3 := Lib.hid hr3
                 have HK3 := Lib.hid k3
                 have HT3 := Lib.hid (HT2.out.only o3 (fun q hq => (Row.own hkp hq).1))
                 clear hkp hlen hr3 k3 o3 k2 h2 hf2 o2)
              | ((with_reducible refine gate_builtin (b := .append) (xs := #[.tmp 61, .tmp 67]) rfl ?_); at_builtin; go_loud (refine Go.Lib.wpList_append_run_sl _ rfl (.tmp 61) (.tmp 67) 22 rfl _ _ rfl rfl HR3.out ?_)))
            go_roundw
            case rel => exact ⟨i + 1, F2, e, _, _, by go_num, by omega, HT3, Lib.hid (.inr ⟨rfl, HST.out.2⟩), Lib.hid ⟨Int.le_trans HNB.out.1 HEN.out.1, HEN.out.2⟩, HK3⟩
            case measure => simp [RowKit.intOf]; omega
          · have hd5 : decide (cl x ≤ cl to_) = false := decide_eq_false hle
            clear hle
            go_wp2_with (go_at_call 13; refine (HCA.out _ _).mono ?_; rintro e w' ⟨rfl, rfl⟩)
            go_roundw
            case rel => exact ⟨i + 1, Fb, nb, Kb, P, by go_num, by omega, HT, HTD, HNB, HKP⟩
            case measure => simp [RowKit.intOf]; omega
        · have hge2 : ¬ (i : Int) < i := by omega
          have hE2 : E = mx (cl to_) nb := by
            have h1 := HNB.out
            have h2 := HEB.out
            have h3 := HE.out
            unfold mx at h3 ⊢
            split at h3 <;> split <;> omega
          have hst := HTD.out.step HNB.out.2
          have HST := Lib.hid hst
          have HAV := Lib.hid (wh_adv to_ HT.out.b hE2)
          have HOL : Hid ((outK E K).length ≤ j) := Lib.hid (by have h7 := out_len E K; have h8 := HKN.out; omega)
          clear hE2 hst
          go_upto_region 16 with (first
              | (go_at_call 12; refine HAV.out.mono ?_; rintro en w2 ⟨v2, F2, rfl, k2, h2, hf2, o2⟩
                 have HT2 := Lib.hid (HT.out.setB h2 hf2 o2)
                 have hkp : Ks w2 (fun k => w.heap.size ≤ k ∧ ¬ Fa k ∧ ¬ F2 k) u12 P := Row.to (Row.only HKP.out o2 (fun q hq e => (Row.own HKP.out hq).1.2.2 e)) (fun q hq => ⟨(Row.own HKP.out hq).1.1, (Row.own HKP.out hq).1.2.1, fun hF => by
                   rcases hf2 q hF with h5 | h5
                   · exact (Row.own HKP.out hq).1.2.2 h5
                   · have := (Row.own HKP.out hq).2; omega⟩)
                 have hlen : P.length + (outK E Kb).length ≤ 100000 := by
                   have h6 := congrArg List.length HST.out.1
                   rw [List.length_append] at h6
                   have h7 := HOL.out
                   have h8 := HB.out
                   omega
                 obtain ⟨v3, w3, hr3, k3, o3⟩ := Ks.all hkp k2 (fun q hq => ⟨by have := HT2.out.on.size; omega, fun hF => by have := HT2.out.a.flt q hF; omega, fun hF => by have := HT2.out.b.flt q hF; omega⟩) hlen 22
                 rw [HST.out.1] at k3
                 have HR3 := Lib.hid hr3
                 have HK3 := Lib.hid k3
                 have ht3 := HT2.out.only o3 (fun q hq => (Row.own hkp hq).1)
                 rw [HST.out.2] at ht3
                 have HT3 := Lib.hid ht3
                 clear hkp hlen hr3 k3 o3 k2 h2 hf2 o2 ht3)
              | ((with_reducible refine gate_builtin (b := .append) (xs := #[.tmp 69, .tmp 72]) rfl ?_); at_builtin; go_loud (refine Go.Lib.wpList_append_run_sl _ rfl (.tmp 69) (.tmp 72) 22 rfl _ _ rfl rfl HR3.out ?_)))
          have HAV2 := Lib.hid (wh_adv to_ HT3.out.a HE.out)
          clear HAV HT2 HT HTD HNB HKP HR3
          go_upto_region 17 with (
             go_at_call 12; refine HAV2.out.mono ?_; rintro en w4 ⟨v4, F4, rfl, k4, h4, hf4, o4⟩
             have HT4 := Lib.hid (HT3.out.setA h4 hf4 o4)
             have HK4 := Lib.hid k4
             have HK5 := Lib.hid (Row.only HK3.out o4 (fun q hq e => (Row.own HK3.out hq).1.2.1 e))
             clear k4 h4 hf4 o4)
          obtain ⟨out, hout⟩ : ∃ out, out = outK E K := ⟨_, rfl⟩
          have hk4 := HK4.out
          have hk5 := HK5.out
          unfold Ks at hk4
          rw [← hout] at hk4 hk5 HOL
          clear hout
          obtain ⟨A4, c4, hv4, _⟩ := Row.form hk4
          obtain ⟨A5, c5, hv5, _⟩ := Row.form hk5
          obtain ⟨m, hm⟩ : ∃ m, m = out.length := ⟨_, rfl⟩
          rw [← hm] at hv4 hv5 hk4 hk5 HOL
          subst hv4 hv5
          have HM := Lib.hid hm
          have HQ4 := Lib.hid hk4
          have HQ5 := Lib.hid hk5
          have HLA := Lib.hid (wh_len HT4.out.a)
          have HLB := Lib.hid (wh_len HT4.out.b)
          have HNA := Lib.hid (wh_now HT4.out.a)
          have HNB := Lib.hid (wh_now HT4.out.b)
          clear hm hk4 hk5 HAV2 HT3 HK3 HK4 HK5
          go_upto_region 20 with (first
            | (go_at_call 14; with_reducible refine HLA.out.mono ?_; rintro e w' ⟨rfl, rfl⟩)
            | (go_at_call 14; with_reducible refine HLB.out.mono ?_; rintro e w' ⟨rfl, rfl⟩)
            | (go_at_call 15; with_reducible refine HNA.out.mono ?_; rintro e w' ⟨rfl, rfl⟩)
            | (go_at_call 15; with_reducible refine HNB.out.mono ?_; rintro e w' ⟨rfl, rfl⟩))
          have HON : Hid (Only (fun _ => False) w w4) := Lib.hid HT4.out.on
          go_loopw [15] (fun v15 wr => ∃ (p : Nat) (nd : Nat), v15 = .int .i64 (p : Int) ∧ p ≤ m ∧ wr = w4.drewN nd) (fun v15 _ => m - (RowKit.intOf v15).toNat)
          case atStart => exact ⟨0, 0, rfl, Nat.zero_le _, rfl⟩
          case round =>
            obtain ⟨p, nd, rfl, hp, hwr⟩ := hrel
            have HWR := Lib.hid hwr
            clear hwr
            have hmj := HOL.out
            have hjB := HB.out
            have hgo3 : p < m ∨ p = m := by omega
            rcases hgo3 with hlt | rfl
            · have hlt' : (p : Int) < (m : Int) := by omega
              have hlj' : (p : Int) < (j : Int) := by omega
              have hio : p < out.length := by rw [← HM.out]; exact hlt
              have hge3 : out[p]? = some out[p] := List.getElem?_eq_getElem hio
              obtain ⟨h0, hh0⟩ : ∃ h0, h0 = out[p] := ⟨_, rfl⟩
              rw [← hh0] at hge3
              obtain ⟨q4, o4, d4, hs4, _⟩ := Row.some_ HQ4.out (by omega)
              injection hs4 with s1 s2 s3
              subst s1 s3
              obtain ⟨q5, o5, d5, hs5, _⟩ := Row.some_ HQ5.out (by omega)
              injection hs5 with s1 s2 s3
              subst s1 s3
              have hx4 : wr.cell? ⟨q4, o4 + p, none⟩ = some (.int .i64 h0) := by rw [HWR.out]; exact Row.cell HQ4.out p (by rw [List.getElem?_map, hge3]; rfl)
              have hx5 : wr.cell? ⟨q5, o5 + p, none⟩ = some (.int .i64 h0) := by rw [HWR.out]; exact Row.cell HQ5.out p (by rw [List.getElem?_map, hge3]; rfl)
              clear hge3 hh0 hio
              go_upto_region 20 with fail
              go_quiet (fail)
              go_wp2
              go_roundw
              case rel => exact ⟨p + 1, nd + nq, by go_num, by omega, by rw [HWR.out, World.drewN_drewN]⟩
              case measure => simp [RowKit.intOf]; omega
            · have hd7 : decide ((p : Int) < (p : Int)) = false := decide_eq_false (by omega)
              by_cases hpj : p < j
              · have hd6 : decide ((p : Int) < (j : Int)) = true := decide_eq_true (by omega)
                go_upto_region 20 with fail
                go_quiet (fail)
                go_wp2_with (go_at_call 9; refine (HAW.out _).mono ?_; rintro e w6 ⟨rfl, o6⟩; have O6 := Lib.hid o6; clear o6)
                go_ret
                refine ⟨rfl, below_of (Only.trans ?_ O6.out)⟩
                rw [HWR.out]
                exact (HON.out.drewN _).drewN _
              · have hd6 : decide ((p : Int) < (j : Int)) = false := decide_eq_false (by omega)
                go_upto_region 20 with fail
                go_quiet (fail)
                go_wp2_with (go_at_call 9; refine (HAW.out _).mono ?_; rintro e w6 ⟨rfl, o6⟩; have O6 := Lib.hid o6; clear o6)
                go_ret
                refine ⟨rfl, below_of (Only.trans ?_ O6.out)⟩
                rw [HWR.out]
                exact (HON.out.drewN _).drewN _

end Go.Proofs.Ytkjokpmlnnjmoaa.Wh

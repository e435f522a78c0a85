/- Wheel: the document's Time, Cancel, Advance, and its helpers. -/
import Derived.Test.YtkjokpmlnnjmoaaWr
set_option linter.unusedVariables false
set_option linter.unusedSimpArgs false
namespace Go.Proofs.Ytkjokpmlnnjmoaa.Wh
open Go.RowKit Go.Maps Go.Proofs.Ytkjokpmlnnjmoaa.Base Go.Proofs.Ytkjokpmlnnjmoaa.Rws Go.Proofs.YtkjokpmlnnjmoaaW.PrintWords Go.Proofs.YtkjokpmlnnjmoaaW.PrintMore
attribute [local go_sem] max2_mx min2_mn max_two min_two max_three min_three max_four min_four

set_option maxHeartbeats 4000000 in
theorem rtime_p {w : World} {r : Nat} {G : Nat → Prop} {n last : Int} {v : Value} {L : List (Int × Int)} (k : Int) (h : RS w r G n last v L) (hL : L.length ≤ 10000) :
    Calls Try.prog 38 #[.pointer (some ⟨r, 0, none⟩), .int .i64 k] w fun e w' => ((∃ a, (a, k) ∈ L ∧ e = .returned (.tuple #[.int .i64 a, .bool true])) ∨ ((∀ p ∈ L, p.2 ≠ k) ∧ e = .returned (.tuple #[.int .i64 0, .bool false]))) ∧ w = w' := by
  have HR := Lib.hid h
  have HF := Lib.hid (find_p k h hL)
  have hx := h.val
  obtain ⟨A, c, hv, _⟩ := Row.form h.row
  obtain ⟨N, hN⟩ : ∃ N, N = L.length := ⟨_, rfl⟩
  rw [← hN] at hv
  subst hv
  have HN := Lib.hid hN
  have hNb : N ≤ 10000 := by omega
  clear h hL hN
  go_enter Try.func38, Try.ntmps38
  go_upto_region 2 with (go_at_call 46; refine HF.out.mono ?_; rintro e w' ⟨⟨i, rfl, hat⟩, rfl⟩; have HAT := Lib.hid hat; clear hat)
  rcases HAT.out with ⟨j, p, rfl, hj, hp⟩ | ⟨rfl, hno⟩
  · have hjl : j < N := by rw [HN.out]; exact (List.getElem?_eq_some_iff.1 hj).1
    have hrow := HR.out.row
    unfold Rs at hrow
    rw [← HN.out] at hrow
    obtain ⟨q, o, c2, hs, _⟩ := Row.some_ hrow (by omega)
    injection hs with s1 s2 s3
    subst s1 s3
    have hx1 : w.cell? ⟨q, o + j * 2, none⟩ = some (.int .i64 p.1) := Row.cell hrow (j * 2) (by have := encP_at L j 0 p hj (by decide); exact this)
    have hj0 : ¬ (j : Int) < 0 := by omega
    have hjl' : (j : Int) < (N : Int) := by omega
    have HJ := Lib.hid hj
    have HP := Lib.hid hp
    clear hj hp hrow
    go_wp2
    go_ret2
    exact ⟨.inl ⟨p.1, by rw [← HP.out]; exact List.mem_of_getElem? HJ.out, rfl⟩, rfl⟩
  · have HNO := Lib.hid hno
    clear hno
    go_wp2
    go_ret2
    exact ⟨.inr ⟨HNO.out, rfl⟩, rfl⟩

/-- Two rows of the same numbers. -/
theorem ints_p {w : World} {P P2 : Nat → Prop} {v v2 : Value} {L : List Int} (h : Ks w P v L) (h2 : Ks w P2 v2 L) (hL : L.length ≤ 100000) :
    Calls Try.prog 36 #[v, v2] w fun e w' => e = .returned (.bool true) ∧ Only (fun _ => False) w w' := by
  have H1 := Lib.hid h
  have H2 := Lib.hid h2
  obtain ⟨A, c, hv, _⟩ := Row.form h
  obtain ⟨A2, c2, hv2, _⟩ := Row.form h2
  obtain ⟨N, hN⟩ : ∃ N, N = L.length := ⟨_, rfl⟩
  rw [← hN] at hv hv2
  subst hv hv2
  have HN := Lib.hid hN
  have hNb : N ≤ 100000 := by omega
  clear h h2 hN hL
  go_enter Try.func36, Try.ntmps36
  go_wp2
  go_loopw [5] (fun v5 wr => ∃ (i nd : Nat), v5 = .int .i64 (i : Int) ∧ i ≤ N ∧ Hid (wr = w.drewN nd)) (fun v5 _ => N - (RowKit.intOf v5).toNat)
  case atStart => exact ⟨0, 0, rfl, Nat.zero_le _, Lib.hid rfl⟩
  case round =>
    obtain ⟨i, nd, rfl, hi, HW⟩ := hrel
    have hgo : i < N ∨ i = N := by omega
    rcases hgo with hlt | rfl
    · have hlt' : (i : Int) < (N : Int) := by omega
      have hio : i < L.length := by rw [← HN.out]; exact hlt
      have hge : L[i]? = some L[i] := List.getElem?_eq_getElem hio
      obtain ⟨p, hp⟩ : ∃ p, p = L[i] := ⟨_, rfl⟩
      rw [← hp] at hge
      have hr1 := H1.out
      have hr2 := H2.out
      unfold Ks at hr1 hr2
      rw [← HN.out] at hr1 hr2
      obtain ⟨q, o, d, hs, _⟩ := Row.some_ hr1 (by omega)
      injection hs with s1 s2 s3
      subst s1 s3
      obtain ⟨q2, o2, d2, hs, _⟩ := Row.some_ hr2 (by omega)
      injection hs with s1 s2 s3
      subst s1 s3
      have hx1 : wr.cell? ⟨q, o + i, none⟩ = some (.int .i64 p) := by rw [HW.out]; exact Row.cell hr1 i (by rw [List.getElem?_map, hge]; rfl)
      have hx2 : wr.cell? ⟨q2, o2 + i, none⟩ = some (.int .i64 p) := by rw [HW.out]; exact Row.cell hr2 i (by rw [List.getElem?_map, hge]; rfl)
      clear hge hr1 hr2 hio hp
      go_upto_region 6 with fail
      go_quiet (fail)
      go_wp2
      go_roundw
      case rel => exact ⟨i + 1, nd + nq, by go_num, by omega, Lib.hid (by rw [HW.out, World.drewN_drewN])⟩
      case measure => simp [RowKit.intOf]; omega
    · have hge : ¬ (i : Int) < i := by omega
      go_wp2
      go_ret
      refine ⟨rfl, ?_⟩
      rw [HW.out]
      exact (Only.refl _ w).drewN _

/-- The document's sum of times. -/
def tAdd (a b : Int) : Int := if 1125899906842624 - cl b < cl a then 1125899906842624 else cl a + cl b

theorem radd_p (a b : Int) (w : World) : Calls Try.prog 33 #[.int .i64 a, .int .i64 b] w fun e w' => e = .returned (.int .i64 (tAdd a b)) ∧ w' = w := by
  have HA := Lib.hid (clampR_p a)
  have HB := Lib.hid (clampR_p b)
  have ha := cl_bounds a
  have hb := cl_bounds b
  unfold tAdd
  obtain ⟨x, hx⟩ : ∃ x, x = cl a := ⟨_, rfl⟩
  obtain ⟨y, hy⟩ : ∃ y, y = cl b := ⟨_, rfl⟩
  rw [← hx] at HA ha ⊢
  rw [← hy] at HB hb ⊢
  obtain ⟨ha0, ha1⟩ := ha
  obtain ⟨hb0, hb1⟩ := hb
  clear hx hy
  split
  · go_enter Try.func33, Try.ntmps33
    go_wp2_with (first | (go_at_call 13; with_reducible refine (HA.out _).mono ?_; rintro e w' ⟨rfl, rfl⟩) | (go_at_call 13; with_reducible refine (HB.out _).mono ?_; rintro e w' ⟨rfl, rfl⟩))
    go_ret
    exact ⟨rfl, rfl⟩
  · go_enter Try.func33, Try.ntmps33
    go_wp2_with (first | (go_at_call 13; with_reducible refine (HA.out _).mono ?_; rintro e w' ⟨rfl, rfl⟩) | (go_at_call 13; with_reducible refine (HB.out _).mono ?_; rintro e w' ⟨rfl, rfl⟩))
    go_ret
    exact ⟨rfl, rfl⟩

theorem RS.setNow {w : World} {r : Nat} {G : Nat → Prop} {n last : Int} {v : Value} {L : List (Int × Int)} (h : RS w r G n last v L) (m : Int) : RS (w.setCell ⟨r, 0, none⟩ (.int .i64 m)) r G m last v L ∧ Only (fun k => k = r) w (w.setCell ⟨r, 0, none⟩ (.int .i64 m)) := by
  have ho1 : Only (fun k => k = r) w (w.setCell ⟨r, 0, none⟩ (.int .i64 m)) := (Only.refl (fun k => k = r) w).setCell (p := ⟨r, 0, none⟩) (.inl rfl) _
  exact ⟨⟨blk_set h.blk 0 _, Row.only h.row ho1 (fun q hq e => h.ne (by rw [hq, e])), h.gr, fun k hk => Nat.lt_of_lt_of_le (h.flt k hk) ho1.size⟩, ho1⟩

theorem RS.setVal {w : World} {r : Nat} {G : Nat → Prop} {n last : Int} {v v' : Value} {L L' : List (Int × Int)} (h : RS w r G n last v L) {G' : Nat → Prop} (h2 : Rs w G' v' L') (hr : G' r) (hg : ∀ k, G' k → k < w.heap.size) : RS (w.setCell ⟨r, 2, none⟩ v') r G' n last v' L' ∧ Only (fun k => k = r) w (w.setCell ⟨r, 2, none⟩ v') := by
  have ho1 : Only (fun k => k = r) w (w.setCell ⟨r, 2, none⟩ v') := (Only.refl (fun k => k = r) w).setCell (p := ⟨r, 2, none⟩) (.inl rfl) _
  exact ⟨⟨blk_set h.blk 2 _, Row.only h2 ho1 (fun q hq e => Row.ne h2 h.blk (by decide) (by rw [hq, e])), hr, fun k hk => Nat.lt_of_lt_of_le (hg k hk) ho1.size⟩, ho1⟩

/-- What a call leaves of the document's wheel. -/
def PostR (w : World) (r : Nat) (G : Nat → Prop) (n last : Int) (L : List (Int × Int)) (w' : World) : Prop :=
  ∃ G' v', RS w' r G' n last v' L ∧ (∀ k, G' k → G k ∨ w.heap.size ≤ k) ∧ Only G w w'

theorem cutP {L : List (Int × Int)} {j : Nat} {k : Int} (hn : (L.map Prod.snd).Nodup) {p : Int × Int} (hj : L[j]? = some p) (hp : p.2 = k) : L.take j ++ L.drop (j + 1) = L.filter (fun p => decide (p.2 ≠ k)) := by
  induction L generalizing j with
  | nil => simp at hj
  | cons x L ih =>
    rw [List.map_cons, List.nodup_cons] at hn
    cases j with
    | zero =>
      simp at hj
      subst hj
      rw [List.filter_cons_of_neg (by simpa using hp), List.take_zero, List.nil_append, List.drop_succ_cons, List.drop_zero]
      refine (List.filter_eq_self.2 (fun y hy => decide_eq_true (p := y.2 ≠ k) (fun e => hn.1 ?_))).symm
      rw [hp, ← e]
      exact List.mem_map.2 ⟨y, hy, rfl⟩
    | succ j =>
      have hj' : L[j]? = some p := by simpa using hj
      have hx : x.2 ≠ k := fun e => hn.1 (by rw [e, ← hp]; exact List.mem_map.2 ⟨p, List.mem_of_getElem? hj', rfl⟩)
      rw [List.take_succ_cons, List.cons_append, List.drop_succ_cons, ih hn.2 hj', List.filter_cons_of_pos (by simpa using hx)]

theorem Row.zero {sz : Nat} {e : TypeId} {w : World} {P : Nat → Prop} {g o c n : Nat} {xs : List Value} (h : Row sz e w P (.slice (some ⟨g, o, none⟩) n c) n xs) : Row sz e w P (.slice (some ⟨g, o, none⟩) 0 0) 0 [] := by
  rcases h with ⟨h, _⟩ | ⟨g', o', c', cells, hv, hP, hh, h1, h2, h3, h4⟩
  · cases h
  · injection hv with e1 e2 e3
    injection e1 with e1
    injection e1 with e4 e5
    subst e3 e4 e5
    exact .inr ⟨g, o, 0, cells, rfl, hP, hh, ⟨Nat.le_refl _, Nat.zero_le _⟩, by omega, by simp, fun j u hu => by simp at hu⟩

/-- What is left behind the first k, in Go's words: where there is no room left the place stays. -/
theorem Rs.rest {w : World} {P : Nat → Prop} {q o c N : Nat} {L : List (Int × Int)} (h : Row 2 49 w P (.slice (some ⟨q, o, none⟩) N c) N (L.flatMap encP)) (hN : N = L.length) (k : Nat) (hk : k ≤ N) :
    Rs w P (.slice (some ⟨q, o + k * 2, none⟩) (N - k) (c - k)) (L.drop k) ∧ (c = k → Rs w P (.slice (some ⟨q, o, none⟩) 0 0) (L.drop k)) := by
  constructor
  · have h1 := Row.cut h k hk
    rw [flatP_drop] at h1
    unfold Rs
    rw [List.length_drop, ← hN]
    exact h1
  · intro hc
    have h0 : N - k = 0 := by
      have : N ≤ c := by obtain ⟨_, _, e, h⟩ := Row.form h; injection e with _ _ e; omega
      omega
    have hd : L.drop k = [] := List.drop_eq_nil_of_le (by omega)
    unfold Rs
    rw [hd]
    exact Row.zero h

set_option maxHeartbeats 4000000 in
set_option maxRecDepth 100000 in
theorem rcancel_p {w : World} {r : Nat} {G : Nat → Prop} {n last : Int} {v : Value} {L : List (Int × Int)} (k : Int) (h : RS w r G n last v L) (hL : L.length ≤ 10000) (hn : (L.map Prod.snd).Nodup) :
    Calls Try.prog 35 #[.pointer (some ⟨r, 0, none⟩), .int .i64 k] w fun e w' => e = .returned (.bool (decide (k ∈ L.map Prod.snd))) ∧ PostR w r G n last (L.filter (fun p => decide (p.2 ≠ k))) w' := by
  have HR := Lib.hid h
  have HF := Lib.hid (find_p k h hL)
  have hx := h.val
  have HND := Lib.hid hn
  obtain ⟨A, c, hv, _⟩ := Row.form h.row
  obtain ⟨N, hN⟩ : ∃ N, N = L.length := ⟨_, rfl⟩
  rw [← hN] at hv
  subst hv
  have HN := Lib.hid hN
  have hNb : N ≤ 10000 := by omega
  obtain ⟨LF, hLF⟩ : ∃ LF, LF = L.filter (fun p => decide (p.2 ≠ k)) := ⟨_, rfl⟩
  rw [← hLF]
  have HLF := Lib.hid hLF
  clear h hL hN hn hLF
  go_enter Try.func35, Try.ntmps35
  go_upto_region 2 with (go_at_call 46; refine HF.out.mono ?_; rintro e w' ⟨⟨i, rfl, hat⟩, rfl⟩; have HAT := Lib.hid hat; clear hat)
  rcases HAT.out with ⟨j, p, rfl, hj, hp⟩ | ⟨rfl, hno⟩
  · have hjl : j < N := by rw [HN.out]; exact (List.getElem?_eq_some_iff.1 hj).1
    have hrow := HR.out.row
    unfold Rs at hrow
    rw [← HN.out] at hrow
    obtain ⟨q, o, c2, hs, hcc⟩ := Row.some_ hrow (by omega)
    injection hs with s1 s2 s3
    subst s1 s3
    have hcb := Row.cap hrow
    have hpre : Rs w G (.slice (some ⟨q, o, none⟩) j c) (L.take j) := by
      have h1 := Row.pre hrow j (by omega)
      rw [flatP_take] at h1
      unfold Rs
      rw [List.length_take, Nat.min_eq_left (by rw [← HN.out]; omega)]
      exact h1
    obtain ⟨v1, w1, hr1, k1, o1⟩ := Rs.all (show Rs w (fun k => w.heap.size ≤ k) (.slice none 0 0) [] from Row.nil 2 49 w _) hpre (fun k hk => hk) (by have h1 := List.length_take_le j L; have h2 := HN.out; simp only [List.length_nil]; omega) 42
    rw [List.nil_append] at k1
    have hrow1 := Row.only hrow o1 (fun g hg => by simp [Value.ownBlock])
    obtain ⟨A1, c1, hv1, _⟩ := Row.form k1
    obtain ⟨j1, hj1⟩ : ∃ j1, j1 = (L.take j).length := ⟨_, rfl⟩
    rw [← hj1] at hv1
    subst hv1
    clear hj1
    have hrest := Rs.rest hrow1 HN.out (j + 1) (by omega)
    have hap : ∃ o' n' c' v2 w2, ((c ≠ j + 1 ∧ o' = o + (j + 1) * 2 ∧ n' = N - (j + 1) ∧ c' = c - (j + 1)) ∨ (c = j + 1 ∧ o' = o ∧ n' = 0 ∧ c' = 0)) ∧ (Builtin.append_ #[42, 42] 42 #[.slice A1 j1 c1, .slice (some ⟨q, o', none⟩) n' c']).run Try.prog w1 = .ok v2 w2 ∧ Rs w2 (fun k => w.heap.size ≤ k) v2 (L.take j ++ L.drop (j + 1)) ∧ Only (fun k => (Value.slice A1 j1 c1).ownBlock = some k) w1 w2 := by
      have hlen : (L.take j).length + (L.drop (j + 1)).length ≤ 100000 := by have h1 := List.length_take_le j L; have h2 := HN.out; rw [List.length_drop]; omega
      by_cases hcj : c = j + 1
      · obtain ⟨v2, w2, hr2, k2, o2⟩ := Rs.all k1 (hrest.2 hcj) (fun k hk => by have := o1.size; omega) hlen 42
        exact ⟨o, 0, 0, v2, w2, .inr ⟨hcj, rfl, rfl, rfl⟩, hr2, k2, o2⟩
      · obtain ⟨v2, w2, hr2, k2, o2⟩ := Rs.all k1 hrest.1 (fun k hk => by have := o1.size; omega) hlen 42
        exact ⟨_, _, _, v2, w2, .inl ⟨hcj, rfl, rfl, rfl⟩, hr2, k2, o2⟩
    obtain ⟨o', n', c', v2, w2, hoc, hr2, k2, o2⟩ := hap
    obtain ⟨A2, c2, hv2, _⟩ := Row.form k2
    obtain ⟨m2, hm2⟩ : ∃ m2, m2 = (L.take j ++ L.drop (j + 1)).length := ⟨_, rfl⟩
    rw [← hm2] at hv2
    subst hv2
    clear hm2
    have hcp := cutP HND.out hj hp
    rw [hcp, ← HLF.out] at k2
    have hj0 : ¬ (j : Int) < 0 := by omega
    have hjl' : (j : Int) < (N : Int) := by omega
    have hR1 := HR.out.only o1 (fun g hg => by simp [Value.ownBlock])
    have ho2 : ∀ k, (Value.slice A1 j1 c1).ownBlock = some k → w.heap.size ≤ k := fun k hk => (Row.own k1 hk).1
    have hR2 := hR1.only o2 (fun g hg e => by have h1 := ho2 g e; have h2 := HR.out.flt g hg; omega)
    have hx1 := hR1.val
    have hx2 := hR2.val
    have hf2 := hR2.frozen 2
    have HIN : Hid (k ∈ L.map Prod.snd) := Lib.hid (by rw [← hp]; exact List.mem_map.2 ⟨p, List.mem_of_getElem? hj, rfl⟩)
    have HR1 := Lib.hid hr1
    have HR2 := Lib.hid hr2
    have HK2 := Lib.hid k2
    have HS2 := Lib.hid hR2
    have HOW : Hid (Only (fun _ => False) w w2) := Lib.hid ((o1.mono (fun k hk => by simp [Value.ownBlock] at hk)).then_ o2 (fun k hk => .inr (ho2 k hk)))
    clear hj hp hrow hpre hr1 k1 o1 hrow1 hrest hr2 k2 o2 hcp hR1 ho2 hR2 HAT HF
    rcases hoc with ⟨hcj, rfl, rfl, rfl⟩ | ⟨rfl, rfl, rfl, rfl⟩
    all_goals
      go_wp2_with (first
        | ((with_reducible refine gate_builtin (b := .append) (xs := #[.tmp 12, .tmp 18]) rfl ?_); at_builtin; go_loud (refine Go.Lib.wpList_append_run_sl _ rfl (.tmp 12) (.tmp 18) 42 rfl _ _ rfl rfl HR1.out ?_))
        | ((with_reducible refine gate_builtin (b := .append) (xs := #[.tmp 21, .tmp 28]) rfl ?_); at_builtin; go_loud (refine Go.Lib.wpList_append_run_sl _ rfl (.tmp 21) (.tmp 28) 42 rfl _ _ rfl rfl HR2.out ?_)))
      go_ret
      rw [decide_eq_true HIN.out]
      obtain ⟨hs3, ho3⟩ := HS2.out.setVal (G' := fun k => k = r ∨ (Value.slice A2 m2 c2).ownBlock = some k) (Row.to HK2.out (fun k hk => .inr hk)) (.inl rfl) (fun k hk => by rcases hk with h1 | h1; rw [h1]; exact blk_lt HS2.out.blk; exact (Row.own HK2.out h1).2)
      exact ⟨rfl, _, _, hs3, fun k hk => by rcases hk with h1 | h1; exact .inl (by rw [h1]; exact HR.out.gr); exact .inr (Row.own HK2.out h1).1, (HOW.out.mono (fun _ h => h.elim)).trans (ho3.mono (fun k hk => by rw [hk]; exact HR.out.gr))⟩
  · have HNO := Lib.hid hno
    clear hno
    go_wp2
    go_ret
    have hni : k ∉ L.map Prod.snd := fun hm => by
      obtain ⟨p, hp, he⟩ := List.mem_map.1 hm
      exact HNO.out p hp he
    rw [decide_eq_false hni, HLF.out, List.filter_eq_self.2 (fun p hp => decide_eq_true (p := p.2 ≠ k) (HNO.out p hp))]
    exact ⟨rfl, G, _, HR.out, fun k hk => .inl hk, Only.refl _ _⟩

end Go.Proofs.Ytkjokpmlnnjmoaa.Wh

/- Hedge: the laws' walks: the answers, the example, the first law. -/
import Derived.Test.YtpkmpbocgbmliaaHdP
import Derived.Test.YtpkmpbocgbmliaaArgs
set_option linter.unusedVariables false
set_option linter.unusedSimpArgs false
namespace Go.Proofs.Ytpkmpbocgbmliaa.Hd
open Go.RowKit Go.Proofs.Ytpkmpbocgbmliaa.Base Go.Proofs.Ytpkmpbocgbmliaa.Rws Go.Proofs.Ytpkmpbocgbmliaa.PHedgePlays Go.Proofs.YtpkmpbocgbmliaaW.PrintWords Go.Proofs.YtpkmpbocgbmliaaW.PrintMore
attribute [local go_sem] max2_mx min2_mn max_two min_two max_three min_three max_four min_four

/-- The answers that came in. -/
def Ans (w : World) (A : Option Addr) (n : Nat) : Prop := ∃ l : List S34, l.length = n ∧ Kd.C k34 w A n l

theorem cells34 : Try.prog.cellsOf 34 = 2 := by kernel_rfl

theorem ans_of {w : World} {A : Option Addr} {len : Nat} (hm : len ≤ maxLen) (h : ∀ i, i < len → ∃ a, A = some a ∧ ∀ o k, (o, k) ∈ [(0, Args.Bs.int .i64), (1, Args.Bs.int .i64)] → ∃ v, w.cell? (a.add (i * Try.prog.cellsOf 34 + o)) = some v ∧ k.fit v) : Ans w A len := by
  have h1 : ∀ i, i < len → ∃ (a : Addr) (x : S34), A = some a ∧ w.cell? (a.add (i * 2)) = some (.int .i64 x.f0) ∧ w.cell? (a.add (i * 2 + 1)) = some (.int .i64 x.f1) := fun i hi => by
    obtain ⟨a, hA, hc⟩ := h i hi
    rw [cells34] at hc
    obtain ⟨v0, hv0, x0, rfl, _⟩ := hc 0 (.int .i64) (by simp)
    obtain ⟨v1, hv1, x1, rfl, _⟩ := hc 1 (.int .i64) (by simp)
    exact ⟨a, ⟨x0, x1⟩, hA, hv0, hv1⟩
  have h2 : ∃ f : Nat → S34, ∀ i, i < len → ∃ a, A = some a ∧ w.cell? (a.add (i * 2)) = some (.int .i64 (f i).f0) ∧ w.cell? (a.add (i * 2 + 1)) = some (.int .i64 (f i).f1) := by
    refine ⟨fun i => if hi : i < len then Classical.choose (Classical.choose_spec (h1 i hi)) else z34, fun i hi => ?_⟩
    simp only [dif_pos hi]
    exact ⟨_, Classical.choose_spec (Classical.choose_spec (h1 i hi))⟩
  obtain ⟨f, hf⟩ := h2
  have hlen : ((List.range len).map f).length = len := by simp
  refine ⟨(List.range len).map f, hlen, hlen, by unfold maxLen at hm; omega, fun hpos => ?_⟩
  obtain ⟨ad, hA, _⟩ := hf 0 hpos
  refine ⟨ad, hA, fun j p hp => ?_⟩
  rw [List.getElem?_map] at hp
  have hj : j < len := by
    by_cases hj : j < len
    · exact hj
    · rw [List.getElem?_eq_none (by simpa using hj)] at hp; cases hp
  rw [List.getElem?_range hj] at hp
  obtain rfl := Option.some.inj hp
  obtain ⟨a, hA2, h3, h4⟩ := hf j hj
  obtain rfl := Option.some.inj (hA.symm.trans hA2)
  refine ⟨[.int .i64 (f j).f0, .int .i64 (f j).f1], rfl, k34_mk w (f j), fun i u hu => ?_⟩
  match i, hu with
  | 0, hu => simp at hu; subst hu; exact h3
  | 1, hu => simp at hu; subst hu; exact h4
  | i + 2, hu => simp at hu

theorem clampR_p (a : Int) (w : World) : Calls Try.prog 11 #[.int .i64 a] w fun e w' => e = .returned (.int .i64 (cl a)) ∧ w = w' := by
  unfold cl
  split
  · go_enter Try.func11, Try.ntmps11
    go_wp2
    go_ret
    exact ⟨rfl, rfl⟩
  · split
    · go_enter Try.func11, Try.ntmps11
      go_wp2
      go_ret
      exact ⟨rfl, rfl⟩
    · go_enter Try.func11, Try.ntmps11
      go_wp2
      go_ret
      exact ⟨rfl, rfl⟩

theorem mostR_p (a : Int) (w : World) : Calls Try.prog 12 #[.int .i64 a] w fun e w' => e = .returned (.int .i64 (mostOf a)) ∧ w = w' := by
  unfold mostOf
  split
  · go_enter Try.func12, Try.ntmps12
    go_wp2
    go_ret
    exact ⟨rfl, rfl⟩
  · split
    · go_enter Try.func12, Try.ntmps12
      go_wp2
      go_ret
      exact ⟨rfl, rfl⟩
    · go_enter Try.func12, Try.ntmps12
      go_wp2
      go_ret
      exact ⟨rfl, rfl⟩

theorem rightR_p (c : Int) (w : World) : Calls Try.prog 21 #[.int .i64 c] w fun e w' => e = .returned (.bool (decide (0 ≤ c ∧ c < 17))) ∧ w = w' := by
  have hcs : (¬ 0 ≤ c) ∨ (0 ≤ c ∧ c ≤ 16) ∨ (0 ≤ c ∧ ¬ c ≤ 16) := by omega
  rcases hcs with h | ⟨h, h2⟩ | ⟨h, h2⟩
  · rw [decide_eq_false (fun e => h e.1)]
    go_enter Try.func21, Try.ntmps21
    go_wp2
    go_ret
    exact ⟨rfl, rfl⟩
  · rw [decide_eq_true (show 0 ≤ c ∧ c < 17 by omega)]
    go_enter Try.func21, Try.ntmps21
    go_wp2
    go_ret
    exact ⟨by simp [h2], rfl⟩
  · rw [decide_eq_false (show ¬ (0 ≤ c ∧ c < 17) by omega)]
    go_enter Try.func21, Try.ntmps21
    go_wp2
    go_ret
    exact ⟨by simp [h2], rfl⟩

theorem cleanR_p (c : Int) (w : World) : Calls Try.prog 13 #[.int .i64 c] w fun e w' => e = .returned (.int .i64 (clean c)) ∧ w = w' := by
  have HR := Lib.hid (rightR_p c w)
  unfold clean
  by_cases h : 0 ≤ c ∧ c < 17
  · rw [if_pos h]
    rw [decide_eq_true h] at HR
    go_enter Try.func13, Try.ntmps13
    go_wp2_with (go_at_call 21; refine HR.out.mono ?_; rintro e w1 ⟨rfl, rfl⟩)
    go_ret
    exact ⟨rfl, rfl⟩
  · rw [if_neg h]
    rw [decide_eq_false h] at HR
    go_enter Try.func13, Try.ntmps13
    go_wp2_with (go_at_call 21; refine HR.out.mono ?_; rintro e w1 ⟨rfl, rfl⟩)
    go_ret
    exact ⟨rfl, rfl⟩

theorem mine_go (l : List S34) (h20 : l.length ≤ 100) : ∀ (j i : Nat) (o : List S36), i + j = l.length → o.length = i → hourglasslaw39_mine.l0 (j + 1) l o (i : Int) = some (o ++ (l.drop i).map m36)
  | 0, i, o, h, ho => by
    rw [hourglasslaw39_mine.l0, if_neg (by omega), List.drop_eq_nil_of_le (by omega)]
    simp
  | j + 1, i, o, h, ho => by
    have hi : i < l.length := by omega
    have hw : wrap64 ((i : Int) + 1) = ((i + 1 : Nat) : Int) := by unfold wrap64; omega
    rw [hourglasslaw39_mine.l0, if_pos (by omega), if_pos (by omega), if_pos (by omega), hw, mine_go l h20 j (i + 1) _ (by omega) (by simp [ho])]
    have e : rd_T34 l (i : Int) = l[i] := by
      unfold rd_T34
      rw [List.getD_eq_getElem?_getD]
      simp [hi]
    rw [e, List.drop_eq_getElem_cons hi, List.map_cons, List.append_assoc]
    rfl

theorem mine_p (l : List S34) (A : Option Addr) (n c : Nat) (w : World) (hn : n = l.length) (hl : Kd.C k34 w A n l) (hc : n ≤ c) (h20 : n ≤ 100) :
    Calls Try.prog 9 #[.slice A n c] w fun e w' => ∃ A' c', e = .returned (.slice A' n c') ∧ Kd.C k36 w' A' n (l.map m36) ∧ Below w.heap.size w w' := by
  subst hn
  have hf : hourglasslaw39_mine.f (l.length + 1) l = some (l.map m36) := by
    have := mine_go l h20 l.length 0 [] (by omega) rfl
    simpa [hourglasslaw39_mine.f] using this
  refine (hourglasslaw39_mine.calls _ A c l _ w hl hc hf).mono ?_
  rintro e w' ⟨v, rfl, hR, hB⟩
  obtain ⟨A', c', rfl, _, hC⟩ := Kd.R_reads hR
  rw [List.length_map] at hC ⊢
  exact ⟨A', c', rfl, hC, hB⟩

theorem ref_p (most delay dl : Int) (l : List S34) (A : Option Addr) (n c : Nat) (w : World) (hn : n = l.length) (hl : Kd.C k34 w A n l) (hc : n ≤ c) :
    Calls Try.prog 10 #[.int .i64 most, .int .i64 delay, .int .i64 dl, .slice A n c] w fun e w' => e = .returned (resV (playM most delay dl (l.map m36))) ∧ Below w.heap.size w w' := by
  subst hn
  obtain ⟨k, hk⟩ := play_f most delay dl l
  exact hourglassref39_Play.calls k most delay dl A c l _ _ _ _ w hl hc hk

theorem awake_play : playM 2 5 100 [⟨20, 0⟩, ⟨3, 0⟩] = ⟨0, 8, 2, 2⟩ := by kernel_rfl

theorem awake_p (w : World) : Calls Try.prog 7 #[] w fun e w' => e = .returned (.bool true) ∧ Below w.heap.size w w' := by
  have hK := heap_alloc_new w (.cells #[.int .i64 20, .int .i64 0, .int .i64 3, .int .i64 0] 36)
  have hC : Kd.C k36 (w.alloc (.cells #[.int .i64 20, .int .i64 0, .int .i64 3, .int .i64 0] 36)) (some ⟨w.heap.size, 0, none⟩) 2 [⟨20, 0⟩, ⟨3, 0⟩] := by
    refine ⟨rfl, by decide, fun _ => ⟨_, rfl, fun j p hp => ?_⟩⟩
    match j, hp with
    | 0, hp =>
      obtain rfl := Option.some.inj hp
      refine ⟨_, rfl, k36_mk _ _, fun i u hu => ?_⟩
      match i, hu with
      | 0, hu => obtain rfl := Option.some.inj hu; exact cell_at hK 0 rfl
      | 1, hu => obtain rfl := Option.some.inj hu; exact cell_at hK 1 rfl
      | i + 2, hu => simp at hu
    | 1, hp =>
      obtain rfl := Option.some.inj hp
      refine ⟨_, rfl, k36_mk _ _, fun i u hu => ?_⟩
      match i, hu with
      | 0, hu => obtain rfl := Option.some.inj hu; exact cell_at hK 2 rfl
      | 1, hu => obtain rfl := Option.some.inj hu; exact cell_at hK 3 rfl
      | i + 2, hu => simp at hu
    | j + 2, hp => simp at hp
  have HP := play_p 2 5 100 _ 2 _ _ hC
  rw [awake_play] at HP
  have HP := Lib.hid HP
  have HB := Lib.hid (((Only.refl (fun _ => False) w).alloc (.cells #[.int .i64 20, .int .i64 0, .int .i64 3, .int .i64 0] 36)).below (Below.refl _ _) (Nat.le_refl _) (fun _ h => h.elim))
  clear hK hC
  go_enter Try.func7, Try.ntmps7
  go_wp2_with (first | (go_at_call 8; refine HP.out.mono ?_; rintro e w1 ⟨rfl, hb⟩; have HB1 := Lib.hid (HB.out.trans (hb.mono (by simp))); clear hb; have q0 := cell_at (heap_alloc_new w1 (.cells #[.int .i64 0, .int .i64 8, .int .i64 2, .int .i64 2] 25)) 0 rfl; have q1 := cell_at (heap_alloc_new w1 (.cells #[.int .i64 0, .int .i64 8, .int .i64 2, .int .i64 2] 25)) 1 rfl; have q2 := cell_at (heap_alloc_new w1 (.cells #[.int .i64 0, .int .i64 8, .int .i64 2, .int .i64 2] 25)) 2 rfl; have q3 := cell_at (heap_alloc_new w1 (.cells #[.int .i64 0, .int .i64 8, .int .i64 2, .int .i64 2] 25)) 3 rfl; unfold resV))
  go_ret
  exact ⟨rfl, HB1.out.alloc HB1.out.size _⟩

end Go.Proofs.Ytpkmpbocgbmliaa.Hd

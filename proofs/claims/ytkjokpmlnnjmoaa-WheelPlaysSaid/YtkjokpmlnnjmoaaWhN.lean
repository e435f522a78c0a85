/- Wheel: what is to be done next, in plain Lean. -/
import Derived.Test.YtkjokpmlnnjmoaaWhI
set_option linter.unusedVariables false
set_option linter.unusedSimpArgs false
namespace Go.Proofs.Ytkjokpmlnnjmoaa.Wh

theorem start_top {n x l s : Int} (h0 : 0 ≤ n) (hl : l = 0 ∨ l = 1 ∨ l = 2 ∨ l = 3) (hs : 0 ≤ s) (hs2 : s < 64) (hx : n / 16777216 < x / 16777216) : startI n l s ≤ x := by
  rcases hl with rfl | rfl | rfl | rfl
  · rw [start0]; omega
  · rw [start1]; omega
  · rw [start2]; omega
  · rw [start3]; omega

/-- A list is moved: the others stand where they belong at its time. -/
theorem J.moved {n e : Int} {L : List Tm} {rows : Nat → List Int} (j : J n L rows []) (i : Nat) (he : 0 ≤ e ∧ e ≤ 1125899906842624) (hp : ∀ t ∈ L, t.ix ≠ i → place e t.at_ = place n t.at_) : J e L (upd rows i []) (rows i) := by
  have hin : ∀ t ∈ L, t.h ∈ rows i ↔ t.ix = i := fun t ht => by
    rw [j.mem]
    constructor
    · rintro ⟨_, t', ht', hh, hi⟩
      rw [← j.one ht' ht hh]
      exact hi
    · intro h
      exact ⟨by simp, t, ht, rfl, h⟩
  refine ⟨he, j.nd, j.bd, fun t ht hr => ?_, fun k => ?_, fun k h => ?_⟩
  · rw [hp t ht (fun h => hr ((hin t ht).2 h))]
    exact j.pl t ht (by simp)
  · by_cases e : k = i
    · subst e; rw [upd_same]; exact List.nodup_nil
    · rw [upd_other _ _ e]; exact j.rnd k
  · by_cases e : k = i
    · subst e
      rw [upd_same]
      constructor
      · intro h; cases h
      · rintro ⟨h1, t, ht, rfl, hi⟩
        exact absurd ((hin t ht).2 hi) h1
    · rw [upd_other _ _ e, j.mem]
      constructor
      · rintro ⟨_, t, ht, rfl, hi⟩
        exact ⟨fun h => e (hi ▸ ((hin t ht).1 h)), t, ht, rfl, hi⟩
      · rintro ⟨_, t, ht, hh, hi⟩
        exact ⟨by simp, t, ht, hh, hi⟩

theorem place_cases {n x : Int} (h : n < x) : (n / 64 = x / 64 ∧ place n x = (0, x % 64)) ∨ (n / 64 ≠ x / 64 ∧ n / 4096 = x / 4096 ∧ place n x = (1, x / 64 % 64)) ∨ (n / 4096 ≠ x / 4096 ∧ n / 262144 = x / 262144 ∧ place n x = (2, x / 4096 % 64)) ∨ (n / 262144 ≠ x / 262144 ∧ n / 16777216 = x / 16777216 ∧ place n x = (3, x / 262144 % 64)) ∨ (n / 16777216 ≠ x / 16777216 ∧ place n x = (4, 0)) := by
  obtain ⟨o0, o1, o2, o3, o4⟩ := place_of h
  by_cases h0 : n / 64 = x / 64
  · exact .inl ⟨h0, o0 h0⟩
  · by_cases h1 : n / 4096 = x / 4096
    · exact .inr (.inl ⟨h0, h1, o1 h0 h1⟩)
    · by_cases h2 : n / 262144 = x / 262144
      · exact .inr (.inr (.inl ⟨h1, h2, o2 h1 h2⟩))
      · by_cases h3 : n / 16777216 = x / 16777216
        · exact .inr (.inr (.inr (.inl ⟨h2, h3, o3 h2 h3⟩)))
        · exact .inr (.inr (.inr (.inr ⟨h3, o4 h3⟩)))

theorem place_between {n m x t : Int} (h1 : n ≤ m) (h2 : m ≤ x) (h3 : m < t) (hx : x ≤ t) (h : place x t = place n t) : place m t = place n t := by
  obtain ⟨o0, o1, o2, o3, o4⟩ := place_of h3
  have hn := place_cases (show n < t by omega)
  have hx' : x = t ∨ x < t := by omega
  rcases hx' with rfl | hx'
  · rw [place_past (Int.le_refl _)] at h
    rcases hn with ⟨a, e⟩ | ⟨a, b, e⟩ | ⟨a, b, e⟩ | ⟨a, b, e⟩ | ⟨a, e⟩ <;> rw [e] at h <;> first
      | (simp at h; done)
      | (rw [e]; exact o0 (by omega))
  · rcases hn with ⟨a, e⟩ | ⟨a, b, e⟩ | ⟨a, b, e⟩ | ⟨a, b, e⟩ | ⟨a, e⟩ <;> rcases place_cases hx' with ⟨a', e'⟩ | ⟨a', b', e'⟩ | ⟨a', b', e'⟩ | ⟨a', b', e'⟩ | ⟨a', e'⟩ <;> rw [e, e'] at h <;> first
      | (simp at h; done)
      | (rw [e]; first | exact o0 (by omega) | exact o1 (by omega) (by omega) | exact o2 (by omega) (by omega) | exact o3 (by omega) (by omega) | exact o4 (by omega))

theorem place_own {n m x l s : Int} (h : n < x) (hp : place n x = (l, s)) (hl : l = 0 ∨ l = 1 ∨ l = 2 ∨ l = 3) (h1 : n ≤ m) (h2 : m < startI n l s) : place m x = place n x := by
  rcases place_cases h with ⟨a, e⟩ | ⟨a, b, e⟩ | ⟨a, b, e⟩ | ⟨a, b, e⟩ | ⟨a, e⟩ <;> rw [e] at hp ⊢ <;> simp only [Prod.mk.injEq] at hp <;> obtain ⟨rfl, rfl⟩ := hp
  · rw [start0] at h2; exact (place_of (by omega)).1 (by omega)
  · rw [start1] at h2; exact (place_of (by omega)).2.1 (by omega) (by omega)
  · rw [start2] at h2; exact (place_of (by omega)).2.2.1 (by omega) (by omega)
  · rw [start3] at h2; exact (place_of (by omega)).2.2.2.1 (by omega) (by omega)
  · omega

/-- At a time ahead of which nothing is to be done, all stand where they stood. -/
theorem J.stay {n m : Int} {L : List Tm} {rows : Nat → List Int} (j : J n L rows []) (hm : 0 ≤ m ∧ m ≤ 1125899906842624) (hp : ∀ t ∈ L, place m t.at_ = place n t.at_) : J m L rows [] :=
  ⟨hm, j.nd, j.bd, fun t ht hr => by rw [hp t ht]; exact j.pl t ht hr, j.rnd, j.mem⟩

theorem J.next {n : Int} {L : List Tm} {rows : Nat → List Int} (j : J n L rows []) (hf : ∀ t ∈ L, n < t.at_) {l s : Int} (hl : l = 0 ∨ l = 1 ∨ l = 2 ∨ l = 3) (hs : partI n l < s) (hs2 : s < 64) (hne : rows (ixOf l s) ≠ [])
    (hlow : ∀ l' s' : Int, (l' = 0 ∨ l' = 1 ∨ l' = 2 ∨ l' = 3) → partI n l' < s' → s' < 64 → (l' < l ∨ (l' = l ∧ s' < s)) → rows (ixOf l' s') = []) :
    n < startI n l s ∧ startI n l s ≤ 1125899906842624 ∧ (∀ t ∈ L, startI n l s ≤ t.at_) ∧ J (startI n l s) L (upd rows (ixOf l s) []) (rows (ixOf l s)) ∧ ∀ t ∈ L, ∀ m : Int, n ≤ m → m < startI n l s → place m t.at_ = place n t.at_ := by
  have hg := start_gt j.n0.1 hl hs
  have hpb := part_bd n l
  have key : ∀ t ∈ L, startI n l s ≤ t.at_ ∧ (t.ix ≠ ixOf l s → place (startI n l s) t.at_ = place n t.at_) ∧ (place (startI n l s) t.at_ = place n t.at_ ∨ place n t.at_ = (l, s)) := fun t ht => by
    have hp := j.pl t ht (by simp)
    rcases place_spec j.n0.1 (hf t ht) hp.symm with ⟨h1, h2, h3⟩ | ⟨h1, h2, h3, h4⟩
    · have : place (startI n l s) t.at_ = place n t.at_ := by
        have := (place_moved j.n0.1 (hf t ht) hl hs hs2 hp.symm (.inl (by omega))).2
        rw [this, hp]
      exact ⟨start_top j.n0.1 hl (by omega) hs2 h3, fun _ => this, .inl this⟩
    · have hmem : rows (ixOf t.lv t.sl) ≠ [] := by
        intro h
        have : t.h ∈ rows (ixOf t.lv t.sl) := (j.mem _ _).2 ⟨by simp, t, ht, rfl, rfl⟩
        rw [h] at this
        cases this
      by_cases hlex : t.lv < l ∨ (t.lv = l ∧ t.sl < s)
      · exact absurd (hlow _ _ h1 h2 h3 hlex) hmem
      · by_cases he : t.lv = l ∧ t.sl = s
        · obtain ⟨e1, e2⟩ := he
          rw [e1, e2] at h4
          exact ⟨h4, fun hn => absurd (by unfold Tm.ix; rw [e1, e2]) hn, .inr (by rw [← hp, e1, e2])⟩
        · have hm := place_moved j.n0.1 (hf t ht) hl hs hs2 hp.symm (by omega)
          exact ⟨by omega, fun _ => by rw [hm.2, hp], .inl (by rw [hm.2, hp])⟩
  have hex : startI n l s ≤ 1125899906842624 := by
    cases hr : rows (ixOf l s) with
    | nil => exact absurd hr hne
    | cons h tl =>
      have hm : h ∈ rows (ixOf l s) := by rw [hr]; simp
      obtain ⟨_, t, ht, _, _⟩ := (j.mem _ _).1 hm
      have h1 := (key t ht).1
      have h2 := j.bd t ht
      omega
  refine ⟨hg, hex, fun t ht => (key t ht).1, j.moved _ (by have := j.n0; omega) (fun t ht => (key t ht).2.1), fun t ht m h1 h2 => ?_⟩
  have hk := key t ht
  rcases hk.2.2 with h | h
  · exact place_between h1 (Int.le_of_lt h2) (by omega) hk.1 h
  · exact place_own (hf t ht) h hl h1 h2

/-- The first time of the turn of all levels. -/
def turnI (x : Int) : Int := x / 16777216 * 16777216

theorem J.over {n : Int} {L : List Tm} {rows : Nat → List Int} (j : J n L rows []) (hf : ∀ t ∈ L, n < t.at_) (hlow : ∀ l' s' : Int, (l' = 0 ∨ l' = 1 ∨ l' = 2 ∨ l' = 3) → partI n l' < s' → s' < 64 → rows (ixOf l' s') = []) :
    (∀ t ∈ L, t.h ∈ rows 256) ∧ (rows 256 = [] → L = []) ∧ ∀ e : Int, (∀ t ∈ L, e ≤ turnI t.at_) → (e = 1125899906842624 ∨ ∃ t ∈ L, e = turnI t.at_) → L ≠ [] → n < e ∧ e ≤ 1125899906842624 ∧ (∀ t ∈ L, e ≤ t.at_) ∧ J e L (upd rows 256 []) (rows 256) ∧ ∀ t ∈ L, ∀ m : Int, n ≤ m → m < e → place m t.at_ = place n t.at_ := by
  have key : ∀ t ∈ L, t.ix = 256 ∧ (n < turnI t.at_ ∧ turnI t.at_ ≤ t.at_) ∧ n / 16777216 < t.at_ / 16777216 := fun t ht => by
    have hp := j.pl t ht (by simp)
    rcases place_spec j.n0.1 (hf t ht) hp.symm with ⟨h1, h2, h3⟩ | ⟨h1, h2, h3, h4⟩
    · exact ⟨by unfold Tm.ix ixOf; rw [if_pos h1], by unfold turnI; omega, h3⟩
    · have : t.h ∈ rows (ixOf t.lv t.sl) := (j.mem _ _).2 ⟨by simp, t, ht, rfl, rfl⟩
      rw [hlow _ _ h1 h2 h3] at this
      cases this
  have hm : ∀ t ∈ L, t.h ∈ rows 256 := fun t ht => (j.mem _ _).2 ⟨by simp, t, ht, rfl, (key t ht).1⟩
  refine ⟨hm, fun h => ?_, fun e he1 he2 hne => ?_⟩
  · cases L with
    | nil => rfl
    | cons t L =>
      have := hm t (by simp)
      rw [h] at this
      cases this
  · have hn : n < e := by
      rcases he2 with h | ⟨t, ht, h⟩
      · cases L with
        | nil => exact absurd rfl hne
        | cons t L =>
          have h1 := hf t (by simp)
          have h2 := j.bd t (by simp)
          omega
      · rw [h]; exact (key t ht).2.1.1
    have hle : ∀ t ∈ L, e ≤ t.at_ := fun t ht => Int.le_trans (he1 t ht) (key t ht).2.1.2
    have hm50 : e ≤ 1125899906842624 := by
      rcases he2 with h | ⟨t, ht, h⟩
      · omega
      · have h1 := hle t ht
        have h2 := j.bd t ht
        omega
    refine ⟨hn, hm50, hle, j.moved _ (by have := j.n0; omega) (fun t ht h => absurd (key t ht).1 h), fun t ht m h1 h2 => ?_⟩
    have hk := (key t ht).2
    have h3 := he1 t ht
    have h4 : m / 16777216 ≠ t.at_ / 16777216 := by unfold turnI at h3; omega
    rw [(place_of (by omega)).2.2.2.2 h4, (place_of (hf t ht)).2.2.2.2 (by omega)]

end Go.Proofs.Ytkjokpmlnnjmoaa.Wh

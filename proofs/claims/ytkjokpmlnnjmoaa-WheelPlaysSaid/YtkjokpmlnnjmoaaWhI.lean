/- Wheel: where each timer stands, in plain Lean. -/
import Derived.Test.YtkjokpmlnnjmoaaWhM
set_option linter.unusedVariables false
set_option linter.unusedSimpArgs false
namespace Go.Proofs.Ytkjokpmlnnjmoaa.Wh

theorem place_bd (n x : Int) : (0 ≤ (place n x).1 ∧ (place n x).1 ≤ 4) ∧ 0 ≤ (place n x).2 ∧ (place n x).2 < 64 := by
  unfold place
  split
  · simp; omega
  · split
    · simp; omega
    · split
      · simp; omega
      · split
        · simp; omega
        · split
          · simp; omega
          · simp

/-- A timer. -/
structure Tm where
  (at_ h lv sl : Int)

/-- Which list, of 257. -/
def ixOf (l s : Int) : Nat := if l = 4 then 256 else (64 * l + s).toNat
def Tm.ix (t : Tm) : Nat := ixOf t.lv t.sl
/-- A function, changed at one place. -/
def upd {α : Type} (f : Nat → α) (i : Nat) (x : α) : Nat → α := fun j => if j = i then x else f j

theorem upd_same {α : Type} (f : Nat → α) (i : Nat) (x : α) : upd f i x i = x := by simp [upd]
theorem upd_other {α : Type} (f : Nat → α) {i j : Nat} (x : α) (h : j ≠ i) : upd f i x j = f j := by simp [upd, h]

theorem ix_lt (n x : Int) : ixOf (place n x).1 (place n x).2 < 257 := by
  have h := place_bd n x
  unfold ixOf
  split <;> omega

/-- Each timer stands where it belongs, but for some that are being moved. -/
structure J (n : Int) (L : List Tm) (rows : Nat → List Int) (rest : List Int) : Prop where
  n0 : 0 ≤ n ∧ n ≤ 1125899906842624
  nd : (L.map Tm.h).Nodup
  bd : ∀ t ∈ L, 0 ≤ t.at_ ∧ t.at_ ≤ 1125899906842624
  pl : ∀ t ∈ L, t.h ∉ rest → (t.lv, t.sl) = place n t.at_
  rnd : ∀ i, (rows i).Nodup
  mem : ∀ i h, h ∈ rows i ↔ h ∉ rest ∧ ∃ t ∈ L, t.h = h ∧ t.ix = i

theorem J.one {n : Int} {L : List Tm} {rows : Nat → List Int} {rest : List Int} (j : J n L rows rest) {t t' : Tm} (ht : t ∈ L) (ht' : t' ∈ L) (h : t.h = t'.h) : t = t' := by
  have hn := j.nd
  clear j
  induction L with
  | nil => cases ht
  | cons q L ih =>
    rw [List.map_cons, List.nodup_cons] at hn
    rcases List.mem_cons.1 ht with rfl | h1
    · rcases List.mem_cons.1 ht' with rfl | h2
      · rfl
      · exact absurd (List.mem_map.2 ⟨_, h2, h.symm⟩) hn.1
    · rcases List.mem_cons.1 ht' with rfl | h2
      · exact absurd (List.mem_map.2 ⟨_, h1, h⟩) hn.1
      · exact ih h1 h2 hn.2

/-- The timer, laid where it belongs. -/
def laidAt (n : Int) (t : Tm) : Tm := ⟨t.at_, t.h, (place n t.at_).1, (place n t.at_).2⟩
/-- The timers behind it. -/
def putL (n : Int) (L : List Tm) (t : Tm) : List Tm := L.filter (fun x => decide (x.h ≠ t.h)) ++ [laidAt n t]
def putRows (n : Int) (rows : Nat → List Int) (t : Tm) : Nat → List Int := upd rows (laidAt n t).ix (rows (laidAt n t).ix ++ [t.h])

theorem mem_putL {n : Int} {L : List Tm} {t x : Tm} : x ∈ putL n L t ↔ (x ∈ L ∧ x.h ≠ t.h) ∨ x = laidAt n t := by
  unfold putL
  simp [List.mem_append, List.mem_filter]

theorem J.put {n : Int} {L : List Tm} {rows : Nat → List Int} {rest : List Int} (j : J n L rows rest) (t : Tm) (hb : 0 ≤ t.at_ ∧ t.at_ ≤ 1125899906842624) (hf : ∀ i, t.h ∉ rows i) :
    J n (putL n L t) (putRows n rows t) (rest.filter (fun x => decide (x ≠ t.h))) := by
  refine ⟨j.n0, ?_, ?_, ?_, ?_, ?_⟩
  · unfold putL
    rw [List.map_append, List.nodup_append]
    refine ⟨(j.nd.sublist ((List.filter_sublist).map _)), by simp, fun a ha b hb => ?_⟩
    simp at hb
    subst hb
    obtain ⟨x, hx, rfl⟩ := List.mem_map.1 ha
    simpa [laidAt] using (List.mem_filter.1 hx).2
  · intro x hx
    rcases mem_putL.1 hx with ⟨h1, _⟩ | rfl
    · exact j.bd x h1
    · exact hb
  · intro x hx hr
    rcases mem_putL.1 hx with ⟨h1, h2⟩ | rfl
    · exact j.pl x h1 (fun h => hr (List.mem_filter.2 ⟨h, by simpa using h2⟩))
    · rfl
  · intro i
    unfold putRows
    by_cases e : i = (laidAt n t).ix
    · subst e
      rw [upd_same, List.nodup_append]
      refine ⟨j.rnd _, by simp, fun a ha b hb => ?_⟩
      simp at hb
      subst hb
      exact fun e => hf _ (e ▸ ha)
    · rw [upd_other _ _ e]; exact j.rnd i
  · intro i h
    by_cases e : h = t.h
    · subst e
      have h1 : t.h ∉ rest.filter (fun x => decide (x ≠ t.h)) := by simp
      have h2 : (t.h ∈ putRows n rows t i) ↔ i = (laidAt n t).ix := by
        unfold putRows
        by_cases e : i = (laidAt n t).ix
        · subst e
          rw [upd_same]
          simp
        · rw [upd_other _ _ e]
          exact ⟨fun h => absurd h (hf i), fun h => absurd h e⟩
      rw [h2]
      constructor
      · rintro rfl
        exact ⟨h1, _, mem_putL.2 (.inr rfl), rfl, rfl⟩
      · rintro ⟨_, x, hx, hxh, rfl⟩
        rcases mem_putL.1 hx with ⟨_, h3⟩ | rfl
        · exact absurd hxh h3
        · rfl
    · have h2 : (h ∈ putRows n rows t i) ↔ h ∈ rows i := by
        unfold putRows
        by_cases e2 : i = (laidAt n t).ix
        · subst e2
          rw [upd_same]
          simp [e]
        · rw [upd_other _ _ e2]
      rw [h2, j.mem]
      constructor
      · rintro ⟨h1, x, hx, rfl, hi⟩
        exact ⟨fun h => h1 (List.mem_filter.1 h).1, x, mem_putL.2 (.inl ⟨hx, e⟩), rfl, hi⟩
      · rintro ⟨h1, x, hx, rfl, hi⟩
        refine ⟨fun h => h1 (List.mem_filter.2 ⟨h, by simpa using e⟩), ?_⟩
        rcases mem_putL.1 hx with ⟨h3, _⟩ | rfl
        · exact ⟨x, h3, rfl, hi⟩
        · exact absurd rfl e

theorem ix_now {n x : Int} (hn : 0 ≤ n) : ixOf (place n x).1 (place n x).2 = (n % 64).toNat ↔ x ≤ n := by
  constructor
  · intro h
    by_cases hx : x ≤ n
    · exact hx
    · exfalso
      have hne := place_ne (n := n) (x := x) (by omega) hn
      have hb := place_bd n x
      obtain ⟨⟨l, s⟩, hp⟩ : ∃ q, q = place n x := ⟨_, rfl⟩
      rw [← hp] at h hne hb
      simp only at h hb
      unfold ixOf at h
      split at h
      · omega
      · have : l = 0 := by omega
        subst this
        have : s = n % 64 := by omega
        subst this
        exact hne rfl
  · intro h
    rw [place_past h]
    simp [ixOf]

/-- What is due: its list, and what is left. -/
theorem J.due {n : Int} {L : List Tm} {rows : Nat → List Int} (j : J n L rows []) :
    (∀ h, h ∈ rows (n % 64).toNat ↔ ∃ t ∈ L, t.h = h ∧ t.at_ ≤ n) ∧ J n (L.filter (fun t => decide (n < t.at_))) (upd rows (n % 64).toNat []) [] := by
  have hix : ∀ t ∈ L, t.ix = (n % 64).toNat ↔ t.at_ ≤ n := fun t ht => by
    have hp := j.pl t ht (by simp)
    have : t.ix = ixOf (place n t.at_).1 (place n t.at_).2 := by rw [← hp]; rfl
    rw [this, ix_now j.n0.1]
  refine ⟨fun h => ?_, j.n0, j.nd.sublist ((List.filter_sublist).map _), fun t ht => j.bd t (List.mem_filter.1 ht).1, fun t ht _ => j.pl t (List.mem_filter.1 ht).1 (by simp), fun i => ?_, fun i h => ?_⟩
  · rw [j.mem]
    constructor
    · rintro ⟨_, t, ht, hh, hi⟩
      exact ⟨t, ht, hh, (hix t ht).1 hi⟩
    · rintro ⟨t, ht, hh, hi⟩
      exact ⟨by simp, t, ht, hh, (hix t ht).2 hi⟩
  · by_cases e : i = (n % 64).toNat
    · subst e; rw [upd_same]; exact List.nodup_nil
    · rw [upd_other _ _ e]; exact j.rnd i
  · by_cases e : i = (n % 64).toNat
    · subst e
      rw [upd_same]
      constructor
      · intro h; cases h
      · rintro ⟨_, t, ht, _, hi⟩
        have h1 := List.mem_filter.1 ht
        have h2 := (hix t h1.1).1 hi
        have h3 := of_decide_eq_true h1.2
        omega
    · rw [upd_other _ _ e, j.mem]
      constructor
      · rintro ⟨h1, t, ht, hh, hi⟩
        refine ⟨h1, t, List.mem_filter.2 ⟨ht, decide_eq_true ?_⟩, hh, hi⟩
        have := (hix t ht)
        rw [hi] at this
        omega
      · rintro ⟨h1, t, ht, hh, hi⟩
        exact ⟨h1, t, (List.mem_filter.1 ht).1, hh, hi⟩

end Go.Proofs.Ytkjokpmlnnjmoaa.Wh

/- Wa: WhM, WhI, WhN, WhQ, WhK, WhF, WhS, WhL, WhP, WhD, WhE, WhA, WhB in one text. -/
import Derived.Lib.Hide
import Derived.Sort.LotA
import Derived.Lib.Small
import Derived.Test.YtmkcckkjkfmheaaProg
import Derived.Test.YtmkcckkjkfmheaaBase
import Derived.Test.YtmkcckkjkfmheaaRws
import Derived.WalkSpells
import Derived.Maps.OwnSet
import Derived.Maps.RangeWalk
import Derived.Maps.Ext
import Derived.Deep.RegionLaw
import Derived.Deep.AppendLies
import Derived.Lib.SlFresh
import Derived.Deep.RegionHeld3
import Derived.Laws.Tables
import Derived.Great.BuildSlice
/- Wheel: slots, in plain Lean. No program; no condition. -/
set_option linter.unusedVariables false
set_option linter.unusedSimpArgs false
namespace Go.Proofs.Ytmkcckkjkfmheaa.Wh

/-- Where a time stands, at a time. -/
def place (n x : Int) : Int × Int :=
  if x ≤ n then (0, n % 64)
  else if n / 64 = x / 64 then (0, x % 64)
  else if n / 4096 = x / 4096 then (1, x / 64 % 64)
  else if n / 262144 = x / 262144 then (2, x / 4096 % 64)
  else if n / 16777216 = x / 16777216 then (3, x / 262144 % 64)
  else (4, 0)

/-- The slot of a time at a level. -/
def partI (n l : Int) : Int := if l = 0 then n % 64 else if l = 1 then n / 64 % 64 else if l = 2 then n / 4096 % 64 else n / 262144 % 64
/-- The first time of a slot of a level. -/
def startI (n l s : Int) : Int := if l = 0 then n / 64 * 64 + s else if l = 1 then n / 4096 * 4096 + s * 64 else if l = 2 then n / 262144 * 262144 + s * 4096 else n / 16777216 * 16777216 + s * 262144

theorem part0 (n : Int) : partI n 0 = n % 64 := by simp [partI]
theorem part1 (n : Int) : partI n 1 = n / 64 % 64 := by simp [partI]
theorem part2 (n : Int) : partI n 2 = n / 4096 % 64 := by simp [partI]
theorem part3 (n : Int) : partI n 3 = n / 262144 % 64 := by simp [partI]
theorem start0 (n s : Int) : startI n 0 s = n / 64 * 64 + s := by simp [startI]
theorem start1 (n s : Int) : startI n 1 s = n / 4096 * 4096 + s * 64 := by simp [startI]
theorem start2 (n s : Int) : startI n 2 s = n / 262144 * 262144 + s * 4096 := by simp [startI]
theorem start3 (n s : Int) : startI n 3 s = n / 16777216 * 16777216 + s * 262144 := by simp [startI]

theorem part_bd (n l : Int) : 0 ≤ partI n l ∧ partI n l < 64 := by
  unfold partI
  split <;> (try split) <;> (try split) <;> omega

theorem place_past {n x : Int} (h : x ≤ n) : place n x = (0, n % 64) := by unfold place; rw [if_pos h]

/-- A time that is to come is not where the past ones are. -/
theorem place_ne {n x : Int} (h : n < x) (h0 : 0 ≤ n) : place n x ≠ (0, n % 64) := by
  unfold place
  rw [if_neg (by omega)]
  split
  · intro e
    injection e with _ e
    omega
  · split
    · simp
    · split
      · simp
      · split <;> simp

theorem place_spec {n x l s : Int} (h0 : 0 ≤ n) (h : n < x) (hp : place n x = (l, s)) :
    (l = 4 ∧ s = 0 ∧ n / 16777216 < x / 16777216) ∨ ((l = 0 ∨ l = 1 ∨ l = 2 ∨ l = 3) ∧ partI n l < s ∧ s < 64 ∧ startI n l s ≤ x) := by
  unfold place at hp
  rw [if_neg (by omega)] at hp
  split at hp
  · injection hp with h1 h2
    subst h1 h2
    right
    rw [part0, start0]
    refine ⟨.inl rfl, ?_, ?_, ?_⟩ <;> omega
  · split at hp
    · injection hp with h1 h2
      subst h1 h2
      right
      rw [part1, start1]
      refine ⟨.inr (.inl rfl), ?_, ?_, ?_⟩ <;> omega
    · split at hp
      · injection hp with h1 h2
        subst h1 h2
        right
        rw [part2, start2]
        refine ⟨.inr (.inr (.inl rfl)), ?_, ?_, ?_⟩ <;> omega
      · split at hp
        · injection hp with h1 h2
          subst h1 h2
          right
          rw [part3, start3]
          refine ⟨.inr (.inr (.inr rfl)), ?_, ?_, ?_⟩ <;> omega
        · injection hp with h1 h2
          subst h1 h2
          left
          exact ⟨rfl, rfl, by omega⟩

theorem start_gt {n l s : Int} (h0 : 0 ≤ n) (hl : l = 0 ∨ l = 1 ∨ l = 2 ∨ l = 3) (hs : partI n l < s) : n < startI n l s := by
  rcases hl with rfl | rfl | rfl | rfl
  · rw [part0] at hs; rw [start0]; omega
  · rw [part1] at hs; rw [start1]; omega
  · rw [part2] at hs; rw [start2]; omega
  · rw [part3] at hs; rw [start3]; omega

/-- What a time's place is, off what it is not. -/
theorem place_of {n x : Int} (h : n < x) : (n / 64 = x / 64 → place n x = (0, x % 64)) ∧ (n / 64 ≠ x / 64 → n / 4096 = x / 4096 → place n x = (1, x / 64 % 64)) ∧ (n / 4096 ≠ x / 4096 → n / 262144 = x / 262144 → place n x = (2, x / 4096 % 64)) ∧ (n / 262144 ≠ x / 262144 → n / 16777216 = x / 16777216 → place n x = (3, x / 262144 % 64)) ∧ (n / 16777216 ≠ x / 16777216 → place n x = (4, 0)) := by
  unfold place
  rw [if_neg (by omega)]
  refine ⟨fun h => by rw [if_pos h], fun h h2 => by rw [if_neg h, if_pos h2], fun h h2 => by rw [if_neg (by omega), if_neg h, if_pos h2], fun h h2 => by rw [if_neg (by omega), if_neg (by omega), if_neg h, if_pos h2], fun h => by rw [if_neg (by omega), if_neg (by omega), if_neg (by omega), if_neg h]⟩

/-- What stands in another list that is not ahead stays there when a list's time comes. -/
theorem place_moved {n x l s l' s' : Int} (h0 : 0 ≤ n) (h : n < x) (hl : l = 0 ∨ l = 1 ∨ l = 2 ∨ l = 3) (hs : partI n l < s) (hs2 : s < 64) (hp : place n x = (l', s')) (hlex : l < l' ∨ (l = l' ∧ s < s')) :
    startI n l s < x ∧ place (startI n l s) x = (l', s') := by
  have hg := start_gt h0 hl hs
  obtain ⟨p0, p1, p2, p3, p4⟩ := place_of h
  by_cases g0 : n / 64 = x / 64
  · rw [p0 g0] at hp
    injection hp with h1 h2
    subst h1 h2
    rcases hl with rfl | rfl | rfl | rfl
    · rw [start0] at hg ⊢
      rw [part0] at hs
      have hx : n / 64 * 64 + s < x := by omega
      exact ⟨hx, (place_of hx).1 (by omega)⟩
    · omega
    · omega
    · omega
  by_cases g1 : n / 4096 = x / 4096
  · rw [p1 g0 g1] at hp
    injection hp with h1 h2
    subst h1 h2
    rcases hl with rfl | rfl | rfl | rfl
    · rw [start0] at hg ⊢
      rw [part0] at hs
      have hx : n / 64 * 64 + s < x := by omega
      exact ⟨hx, (place_of hx).2.1 (by omega) (by omega)⟩
    · rw [start1] at hg ⊢
      rw [part1] at hs
      have hx : n / 4096 * 4096 + s * 64 < x := by omega
      exact ⟨hx, (place_of hx).2.1 (by omega) (by omega)⟩
    · omega
    · omega
  by_cases g2 : n / 262144 = x / 262144
  · rw [p2 g1 g2] at hp
    injection hp with h1 h2
    subst h1 h2
    rcases hl with rfl | rfl | rfl | rfl
    · rw [start0] at hg ⊢
      rw [part0] at hs
      have hx : n / 64 * 64 + s < x := by omega
      exact ⟨hx, (place_of hx).2.2.1 (by omega) (by omega)⟩
    · rw [start1] at hg ⊢
      rw [part1] at hs
      have hx : n / 4096 * 4096 + s * 64 < x := by omega
      exact ⟨hx, (place_of hx).2.2.1 (by omega) (by omega)⟩
    · rw [start2] at hg ⊢
      rw [part2] at hs
      have hx : n / 262144 * 262144 + s * 4096 < x := by omega
      exact ⟨hx, (place_of hx).2.2.1 (by omega) (by omega)⟩
    · omega
  by_cases g3 : n / 16777216 = x / 16777216
  · rw [p3 g2 g3] at hp
    injection hp with h1 h2
    subst h1 h2
    rcases hl with rfl | rfl | rfl | rfl
    · rw [start0] at hg ⊢
      rw [part0] at hs
      have hx : n / 64 * 64 + s < x := by omega
      exact ⟨hx, (place_of hx).2.2.2.1 (by omega) (by omega)⟩
    · rw [start1] at hg ⊢
      rw [part1] at hs
      have hx : n / 4096 * 4096 + s * 64 < x := by omega
      exact ⟨hx, (place_of hx).2.2.2.1 (by omega) (by omega)⟩
    · rw [start2] at hg ⊢
      rw [part2] at hs
      have hx : n / 262144 * 262144 + s * 4096 < x := by omega
      exact ⟨hx, (place_of hx).2.2.2.1 (by omega) (by omega)⟩
    · rw [start3] at hg ⊢
      rw [part3] at hs
      have hx : n / 16777216 * 16777216 + s * 262144 < x := by omega
      exact ⟨hx, (place_of hx).2.2.2.1 (by omega) (by omega)⟩
  · rw [p4 g3] at hp
    injection hp with h1 h2
    subst h1 h2
    rcases hl with rfl | rfl | rfl | rfl
    · rw [start0] at hg ⊢
      rw [part0] at hs
      have hx : n / 64 * 64 + s < x := by omega
      exact ⟨hx, (place_of hx).2.2.2.2 (by omega)⟩
    · rw [start1] at hg ⊢
      rw [part1] at hs
      have hx : n / 4096 * 4096 + s * 64 < x := by omega
      exact ⟨hx, (place_of hx).2.2.2.2 (by omega)⟩
    · rw [start2] at hg ⊢
      rw [part2] at hs
      have hx : n / 262144 * 262144 + s * 4096 < x := by omega
      exact ⟨hx, (place_of hx).2.2.2.2 (by omega)⟩
    · rw [start3] at hg ⊢
      rw [part3] at hs
      have hx : n / 16777216 * 16777216 + s * 262144 < x := by omega
      exact ⟨hx, (place_of hx).2.2.2.2 (by omega)⟩

end Go.Proofs.Ytmkcckkjkfmheaa.Wh

/- Wheel: where each timer stands, in plain Lean. -/
set_option linter.unusedVariables false
set_option linter.unusedSimpArgs false
namespace Go.Proofs.Ytmkcckkjkfmheaa.Wh

theorem place_bd (n x : Int) : (0 ≤ (place n x).1 ∧ (place n x).1 ≤ 4) ∧ 0 ≤ (place n x).2 ∧ (place n x).2 < 64 := by
  unfold place
  split
  · simp; omega
  · split
    · simp; omega
    · split
      · simp; omega
      · split
        · simp; omega
        · split
          · simp; omega
          · simp

/-- A timer. -/
structure Tm where
  (at_ h lv sl : Int)

/-- Which list, of 257. -/
def ixOf (l s : Int) : Nat := if l = 4 then 256 else (64 * l + s).toNat
def Tm.ix (t : Tm) : Nat := ixOf t.lv t.sl
/-- A function, changed at one place. -/
def upd {α : Type} (f : Nat → α) (i : Nat) (x : α) : Nat → α := fun j => if j = i then x else f j

theorem upd_same {α : Type} (f : Nat → α) (i : Nat) (x : α) : upd f i x i = x := by simp [upd]
theorem upd_other {α : Type} (f : Nat → α) {i j : Nat} (x : α) (h : j ≠ i) : upd f i x j = f j := by simp [upd, h]

theorem ix_lt (n x : Int) : ixOf (place n x).1 (place n x).2 < 257 := by
  have h := place_bd n x
  unfold ixOf
  split <;> omega

/-- Each timer stands where it belongs, but for some that are being moved. -/
structure J (n : Int) (L : List Tm) (rows : Nat → List Int) (rest : List Int) : Prop where
  n0 : 0 ≤ n ∧ n ≤ 1125899906842624
  nd : (L.map Tm.h).Nodup
  bd : ∀ t ∈ L, 0 ≤ t.at_ ∧ t.at_ ≤ 1125899906842624
  pl : ∀ t ∈ L, t.h ∉ rest → (t.lv, t.sl) = place n t.at_
  rnd : ∀ i, (rows i).Nodup
  mem : ∀ i h, h ∈ rows i ↔ h ∉ rest ∧ ∃ t ∈ L, t.h = h ∧ t.ix = i

theorem J.one {n : Int} {L : List Tm} {rows : Nat → List Int} {rest : List Int} (j : J n L rows rest) {t t' : Tm} (ht : t ∈ L) (ht' : t' ∈ L) (h : t.h = t'.h) : t = t' := by
  have hn := j.nd
  clear j
  induction L with
  | nil => cases ht
  | cons q L ih =>
    rw [List.map_cons, List.nodup_cons] at hn
    rcases List.mem_cons.1 ht with rfl | h1
    · rcases List.mem_cons.1 ht' with rfl | h2
      · rfl
      · exact absurd (List.mem_map.2 ⟨_, h2, h.symm⟩) hn.1
    · rcases List.mem_cons.1 ht' with rfl | h2
      · exact absurd (List.mem_map.2 ⟨_, h1, h⟩) hn.1
      · exact ih h1 h2 hn.2

/-- The timer, laid where it belongs. -/
def laidAt (n : Int) (t : Tm) : Tm := ⟨t.at_, t.h, (place n t.at_).1, (place n t.at_).2⟩
/-- The timers behind it. -/
def putL (n : Int) (L : List Tm) (t : Tm) : List Tm := L.filter (fun x => decide (x.h ≠ t.h)) ++ [laidAt n t]
def putRows (n : Int) (rows : Nat → List Int) (t : Tm) : Nat → List Int := upd rows (laidAt n t).ix (rows (laidAt n t).ix ++ [t.h])

theorem mem_putL {n : Int} {L : List Tm} {t x : Tm} : x ∈ putL n L t ↔ (x ∈ L ∧ x.h ≠ t.h) ∨ x = laidAt n t := by
  unfold putL
  simp [List.mem_append, List.mem_filter]

theorem J.put {n : Int} {L : List Tm} {rows : Nat → List Int} {rest : List Int} (j : J n L rows rest) (t : Tm) (hb : 0 ≤ t.at_ ∧ t.at_ ≤ 1125899906842624) (hf : ∀ i, t.h ∉ rows i) :
    J n (putL n L t) (putRows n rows t) (rest.filter (fun x => decide (x ≠ t.h))) := by
  refine ⟨j.n0, ?_, ?_, ?_, ?_, ?_⟩
  · unfold putL
    rw [List.map_append, List.nodup_append]
    refine ⟨(j.nd.sublist ((List.filter_sublist).map _)), by simp, fun a ha b hb => ?_⟩
    simp at hb
    subst hb
    obtain ⟨x, hx, rfl⟩ := List.mem_map.1 ha
    simpa [laidAt] using (List.mem_filter.1 hx).2
  · intro x hx
    rcases mem_putL.1 hx with ⟨h1, _⟩ | rfl
    · exact j.bd x h1
    · exact hb
  · intro x hx hr
    rcases mem_putL.1 hx with ⟨h1, h2⟩ | rfl
    · exact j.pl x h1 (fun h => hr (List.mem_filter.2 ⟨h, by simpa using h2⟩))
    · rfl
  · intro i
    unfold putRows
    by_cases e : i = (laidAt n t).ix
    · subst e
      rw [upd_same, List.nodup_append]
      refine ⟨j.rnd _, by simp, fun a ha b hb => ?_⟩
      simp at hb
      subst hb
      exact fun e => hf _ (e ▸ ha)
    · rw [upd_other _ _ e]; exact j.rnd i
  · intro i h
    by_cases e : h = t.h
    · subst e
      have h1 : t.h ∉ rest.filter (fun x => decide (x ≠ t.h)) := by simp
      have h2 : (t.h ∈ putRows n rows t i) ↔ i = (laidAt n t).ix := by
        unfold putRows
        by_cases e : i = (laidAt n t).ix
        · subst e
          rw [upd_same]
          simp
        · rw [upd_other _ _ e]
          exact ⟨fun h => absurd h (hf i), fun h => absurd h e⟩
      rw [h2]
      constructor
      · rintro rfl
        exact ⟨h1, _, mem_putL.2 (.inr rfl), rfl, rfl⟩
      · rintro ⟨_, x, hx, hxh, rfl⟩
        rcases mem_putL.1 hx with ⟨_, h3⟩ | rfl
        · exact absurd hxh h3
        · rfl
    · have h2 : (h ∈ putRows n rows t i) ↔ h ∈ rows i := by
        unfold putRows
        by_cases e2 : i = (laidAt n t).ix
        · subst e2
          rw [upd_same]
          simp [e]
        · rw [upd_other _ _ e2]
      rw [h2, j.mem]
      constructor
      · rintro ⟨h1, x, hx, rfl, hi⟩
        exact ⟨fun h => h1 (List.mem_filter.1 h).1, x, mem_putL.2 (.inl ⟨hx, e⟩), rfl, hi⟩
      · rintro ⟨h1, x, hx, rfl, hi⟩
        refine ⟨fun h => h1 (List.mem_filter.2 ⟨h, by simpa using e⟩), ?_⟩
        rcases mem_putL.1 hx with ⟨h3, _⟩ | rfl
        · exact ⟨x, h3, rfl, hi⟩
        · exact absurd rfl e

theorem ix_now {n x : Int} (hn : 0 ≤ n) : ixOf (place n x).1 (place n x).2 = (n % 64).toNat ↔ x ≤ n := by
  constructor
  · intro h
    by_cases hx : x ≤ n
    · exact hx
    · exfalso
      have hne := place_ne (n := n) (x := x) (by omega) hn
      have hb := place_bd n x
      obtain ⟨⟨l, s⟩, hp⟩ : ∃ q, q = place n x := ⟨_, rfl⟩
      rw [← hp] at h hne hb
      simp only at h hb
      unfold ixOf at h
      split at h
      · omega
      · have : l = 0 := by omega
        subst this
        have : s = n % 64 := by omega
        subst this
        exact hne rfl
  · intro h
    rw [place_past h]
    simp [ixOf]

/-- What is due: its list, and what is left. -/
theorem J.due {n : Int} {L : List Tm} {rows : Nat → List Int} (j : J n L rows []) :
    (∀ h, h ∈ rows (n % 64).toNat ↔ ∃ t ∈ L, t.h = h ∧ t.at_ ≤ n) ∧ J n (L.filter (fun t => decide (n < t.at_))) (upd rows (n % 64).toNat []) [] := by
  have hix : ∀ t ∈ L, t.ix = (n % 64).toNat ↔ t.at_ ≤ n := fun t ht => by
    have hp := j.pl t ht (by simp)
    have : t.ix = ixOf (place n t.at_).1 (place n t.at_).2 := by rw [← hp]; rfl
    rw [this, ix_now j.n0.1]
  refine ⟨fun h => ?_, j.n0, j.nd.sublist ((List.filter_sublist).map _), fun t ht => j.bd t (List.mem_filter.1 ht).1, fun t ht _ => j.pl t (List.mem_filter.1 ht).1 (by simp), fun i => ?_, fun i h => ?_⟩
  · rw [j.mem]
    constructor
    · rintro ⟨_, t, ht, hh, hi⟩
      exact ⟨t, ht, hh, (hix t ht).1 hi⟩
    · rintro ⟨t, ht, hh, hi⟩
      exact ⟨by simp, t, ht, hh, (hix t ht).2 hi⟩
  · by_cases e : i = (n % 64).toNat
    · subst e; rw [upd_same]; exact List.nodup_nil
    · rw [upd_other _ _ e]; exact j.rnd i
  · by_cases e : i = (n % 64).toNat
    · subst e
      rw [upd_same]
      constructor
      · intro h; cases h
      · rintro ⟨_, t, ht, _, hi⟩
        have h1 := List.mem_filter.1 ht
        have h2 := (hix t h1.1).1 hi
        have h3 := of_decide_eq_true h1.2
        omega
    · rw [upd_other _ _ e, j.mem]
      constructor
      · rintro ⟨h1, t, ht, hh, hi⟩
        refine ⟨h1, t, List.mem_filter.2 ⟨ht, decide_eq_true ?_⟩, hh, hi⟩
        have := (hix t ht)
        rw [hi] at this
        omega
      · rintro ⟨h1, t, ht, hh, hi⟩
        exact ⟨h1, t, (List.mem_filter.1 ht).1, hh, hi⟩

end Go.Proofs.Ytmkcckkjkfmheaa.Wh

/- Wheel: what is to be done next, in plain Lean. -/
set_option linter.unusedVariables false
set_option linter.unusedSimpArgs false
namespace Go.Proofs.Ytmkcckkjkfmheaa.Wh

theorem start_top {n x l s : Int} (h0 : 0 ≤ n) (hl : l = 0 ∨ l = 1 ∨ l = 2 ∨ l = 3) (hs : 0 ≤ s) (hs2 : s < 64) (hx : n / 16777216 < x / 16777216) : startI n l s ≤ x := by
  rcases hl with rfl | rfl | rfl | rfl
  · rw [start0]; omega
  · rw [start1]; omega
  · rw [start2]; omega
  · rw [start3]; omega

/-- A list is moved: the others stand where they belong at its time. -/
theorem J.moved {n e : Int} {L : List Tm} {rows : Nat → List Int} (j : J n L rows []) (i : Nat) (he : 0 ≤ e ∧ e ≤ 1125899906842624) (hp : ∀ t ∈ L, t.ix ≠ i → place e t.at_ = place n t.at_) : J e L (upd rows i []) (rows i) := by
  have hin : ∀ t ∈ L, t.h ∈ rows i ↔ t.ix = i := fun t ht => by
    rw [j.mem]
    constructor
    · rintro ⟨_, t', ht', hh, hi⟩
      rw [← j.one ht' ht hh]
      exact hi
    · intro h
      exact ⟨by simp, t, ht, rfl, h⟩
  refine ⟨he, j.nd, j.bd, fun t ht hr => ?_, fun k => ?_, fun k h => ?_⟩
  · rw [hp t ht (fun h => hr ((hin t ht).2 h))]
    exact j.pl t ht (by simp)
  · by_cases e : k = i
    · subst e; rw [upd_same]; exact List.nodup_nil
    · rw [upd_other _ _ e]; exact j.rnd k
  · by_cases e : k = i
    · subst e
      rw [upd_same]
      constructor
      · intro h; cases h
      · rintro ⟨h1, t, ht, rfl, hi⟩
        exact absurd ((hin t ht).2 hi) h1
    · rw [upd_other _ _ e, j.mem]
      constructor
      · rintro ⟨_, t, ht, rfl, hi⟩
        exact ⟨fun h => e (hi ▸ ((hin t ht).1 h)), t, ht, rfl, hi⟩
      · rintro ⟨_, t, ht, hh, hi⟩
        exact ⟨by simp, t, ht, hh, hi⟩

theorem place_cases {n x : Int} (h : n < x) : (n / 64 = x / 64 ∧ place n x = (0, x % 64)) ∨ (n / 64 ≠ x / 64 ∧ n / 4096 = x / 4096 ∧ place n x = (1, x / 64 % 64)) ∨ (n / 4096 ≠ x / 4096 ∧ n / 262144 = x / 262144 ∧ place n x = (2, x / 4096 % 64)) ∨ (n / 262144 ≠ x / 262144 ∧ n / 16777216 = x / 16777216 ∧ place n x = (3, x / 262144 % 64)) ∨ (n / 16777216 ≠ x / 16777216 ∧ place n x = (4, 0)) := by
  obtain ⟨o0, o1, o2, o3, o4⟩ := place_of h
  by_cases h0 : n / 64 = x / 64
  · exact .inl ⟨h0, o0 h0⟩
  · by_cases h1 : n / 4096 = x / 4096
    · exact .inr (.inl ⟨h0, h1, o1 h0 h1⟩)
    · by_cases h2 : n / 262144 = x / 262144
      · exact .inr (.inr (.inl ⟨h1, h2, o2 h1 h2⟩))
      · by_cases h3 : n / 16777216 = x / 16777216
        · exact .inr (.inr (.inr (.inl ⟨h2, h3, o3 h2 h3⟩)))
        · exact .inr (.inr (.inr (.inr ⟨h3, o4 h3⟩)))

theorem place_between {n m x t : Int} (h1 : n ≤ m) (h2 : m ≤ x) (h3 : m < t) (hx : x ≤ t) (h : place x t = place n t) : place m t = place n t := by
  obtain ⟨o0, o1, o2, o3, o4⟩ := place_of h3
  have hn := place_cases (show n < t by omega)
  have hx' : x = t ∨ x < t := by omega
  rcases hx' with rfl | hx'
  · rw [place_past (Int.le_refl _)] at h
    rcases hn with ⟨a, e⟩ | ⟨a, b, e⟩ | ⟨a, b, e⟩ | ⟨a, b, e⟩ | ⟨a, e⟩ <;> rw [e] at h <;> first
      | (simp at h; done)
      | (rw [e]; exact o0 (by omega))
  · rcases hn with ⟨a, e⟩ | ⟨a, b, e⟩ | ⟨a, b, e⟩ | ⟨a, b, e⟩ | ⟨a, e⟩ <;> rcases place_cases hx' with ⟨a', e'⟩ | ⟨a', b', e'⟩ | ⟨a', b', e'⟩ | ⟨a', b', e'⟩ | ⟨a', e'⟩ <;> rw [e, e'] at h <;> first
      | (simp at h; done)
      | (rw [e]; first | exact o0 (by omega) | exact o1 (by omega) (by omega) | exact o2 (by omega) (by omega) | exact o3 (by omega) (by omega) | exact o4 (by omega))

theorem place_own {n m x l s : Int} (h : n < x) (hp : place n x = (l, s)) (hl : l = 0 ∨ l = 1 ∨ l = 2 ∨ l = 3) (h1 : n ≤ m) (h2 : m < startI n l s) : place m x = place n x := by
  rcases place_cases h with ⟨a, e⟩ | ⟨a, b, e⟩ | ⟨a, b, e⟩ | ⟨a, b, e⟩ | ⟨a, e⟩ <;> rw [e] at hp ⊢ <;> simp only [Prod.mk.injEq] at hp <;> obtain ⟨rfl, rfl⟩ := hp
  · rw [start0] at h2; exact (place_of (by omega)).1 (by omega)
  · rw [start1] at h2; exact (place_of (by omega)).2.1 (by omega) (by omega)
  · rw [start2] at h2; exact (place_of (by omega)).2.2.1 (by omega) (by omega)
  · rw [start3] at h2; exact (place_of (by omega)).2.2.2.1 (by omega) (by omega)
  · omega

/-- At a time ahead of which nothing is to be done, all stand where they stood. -/
theorem J.stay {n m : Int} {L : List Tm} {rows : Nat → List Int} (j : J n L rows []) (hm : 0 ≤ m ∧ m ≤ 1125899906842624) (hp : ∀ t ∈ L, place m t.at_ = place n t.at_) : J m L rows [] :=
  ⟨hm, j.nd, j.bd, fun t ht hr => by rw [hp t ht]; exact j.pl t ht hr, j.rnd, j.mem⟩

theorem J.next {n : Int} {L : List Tm} {rows : Nat → List Int} (j : J n L rows []) (hf : ∀ t ∈ L, n < t.at_) {l s : Int} (hl : l = 0 ∨ l = 1 ∨ l = 2 ∨ l = 3) (hs : partI n l < s) (hs2 : s < 64) (hne : rows (ixOf l s) ≠ [])
    (hlow : ∀ l' s' : Int, (l' = 0 ∨ l' = 1 ∨ l' = 2 ∨ l' = 3) → partI n l' < s' → s' < 64 → (l' < l ∨ (l' = l ∧ s' < s)) → rows (ixOf l' s') = []) :
    n < startI n l s ∧ startI n l s ≤ 1125899906842624 ∧ (∀ t ∈ L, startI n l s ≤ t.at_) ∧ J (startI n l s) L (upd rows (ixOf l s) []) (rows (ixOf l s)) ∧ ∀ t ∈ L, ∀ m : Int, n ≤ m → m < startI n l s → place m t.at_ = place n t.at_ := by
  have hg := start_gt j.n0.1 hl hs
  have hpb := part_bd n l
  have key : ∀ t ∈ L, startI n l s ≤ t.at_ ∧ (t.ix ≠ ixOf l s → place (startI n l s) t.at_ = place n t.at_) ∧ (place (startI n l s) t.at_ = place n t.at_ ∨ place n t.at_ = (l, s)) := fun t ht => by
    have hp := j.pl t ht (by simp)
    rcases place_spec j.n0.1 (hf t ht) hp.symm with ⟨h1, h2, h3⟩ | ⟨h1, h2, h3, h4⟩
    · have : place (startI n l s) t.at_ = place n t.at_ := by
        have := (place_moved j.n0.1 (hf t ht) hl hs hs2 hp.symm (.inl (by omega))).2
        rw [this, hp]
      exact ⟨start_top j.n0.1 hl (by omega) hs2 h3, fun _ => this, .inl this⟩
    · have hmem : rows (ixOf t.lv t.sl) ≠ [] := by
        intro h
        have : t.h ∈ rows (ixOf t.lv t.sl) := (j.mem _ _).2 ⟨by simp, t, ht, rfl, rfl⟩
        rw [h] at this
        cases this
      by_cases hlex : t.lv < l ∨ (t.lv = l ∧ t.sl < s)
      · exact absurd (hlow _ _ h1 h2 h3 hlex) hmem
      · by_cases he : t.lv = l ∧ t.sl = s
        · obtain ⟨e1, e2⟩ := he
          rw [e1, e2] at h4
          exact ⟨h4, fun hn => absurd (by unfold Tm.ix; rw [e1, e2]) hn, .inr (by rw [← hp, e1, e2])⟩
        · have hm := place_moved j.n0.1 (hf t ht) hl hs hs2 hp.symm (by omega)
          exact ⟨by omega, fun _ => by rw [hm.2, hp], .inl (by rw [hm.2, hp])⟩
  have hex : startI n l s ≤ 1125899906842624 := by
    cases hr : rows (ixOf l s) with
    | nil => exact absurd hr hne
    | cons h tl =>
      have hm : h ∈ rows (ixOf l s) := by rw [hr]; simp
      obtain ⟨_, t, ht, _, _⟩ := (j.mem _ _).1 hm
      have h1 := (key t ht).1
      have h2 := j.bd t ht
      omega
  refine ⟨hg, hex, fun t ht => (key t ht).1, j.moved _ (by have := j.n0; omega) (fun t ht => (key t ht).2.1), fun t ht m h1 h2 => ?_⟩
  have hk := key t ht
  rcases hk.2.2 with h | h
  · exact place_between h1 (Int.le_of_lt h2) (by omega) hk.1 h
  · exact place_own (hf t ht) h hl h1 h2

/-- The first time of the turn of all levels. -/
def turnI (x : Int) : Int := x / 16777216 * 16777216

theorem J.over {n : Int} {L : List Tm} {rows : Nat → List Int} (j : J n L rows []) (hf : ∀ t ∈ L, n < t.at_) (hlow : ∀ l' s' : Int, (l' = 0 ∨ l' = 1 ∨ l' = 2 ∨ l' = 3) → partI n l' < s' → s' < 64 → rows (ixOf l' s') = []) :
    (∀ t ∈ L, t.h ∈ rows 256) ∧ (rows 256 = [] → L = []) ∧ ∀ e : Int, (∀ t ∈ L, e ≤ turnI t.at_) → (e = 1125899906842624 ∨ ∃ t ∈ L, e = turnI t.at_) → L ≠ [] → n < e ∧ e ≤ 1125899906842624 ∧ (∀ t ∈ L, e ≤ t.at_) ∧ J e L (upd rows 256 []) (rows 256) ∧ ∀ t ∈ L, ∀ m : Int, n ≤ m → m < e → place m t.at_ = place n t.at_ := by
  have key : ∀ t ∈ L, t.ix = 256 ∧ (n < turnI t.at_ ∧ turnI t.at_ ≤ t.at_) ∧ n / 16777216 < t.at_ / 16777216 := fun t ht => by
    have hp := j.pl t ht (by simp)
    rcases place_spec j.n0.1 (hf t ht) hp.symm with ⟨h1, h2, h3⟩ | ⟨h1, h2, h3, h4⟩
    · exact ⟨by unfold Tm.ix ixOf; rw [if_pos h1], by unfold turnI; omega, h3⟩
    · have : t.h ∈ rows (ixOf t.lv t.sl) := (j.mem _ _).2 ⟨by simp, t, ht, rfl, rfl⟩
      rw [hlow _ _ h1 h2 h3] at this
      cases this
  have hm : ∀ t ∈ L, t.h ∈ rows 256 := fun t ht => (j.mem _ _).2 ⟨by simp, t, ht, rfl, (key t ht).1⟩
  refine ⟨hm, fun h => ?_, fun e he1 he2 hne => ?_⟩
  · cases L with
    | nil => rfl
    | cons t L =>
      have := hm t (by simp)
      rw [h] at this
      cases this
  · have hn : n < e := by
      rcases he2 with h | ⟨t, ht, h⟩
      · cases L with
        | nil => exact absurd rfl hne
        | cons t L =>
          have h1 := hf t (by simp)
          have h2 := j.bd t (by simp)
          omega
      · rw [h]; exact (key t ht).2.1.1
    have hle : ∀ t ∈ L, e ≤ t.at_ := fun t ht => Int.le_trans (he1 t ht) (key t ht).2.1.2
    have hm50 : e ≤ 1125899906842624 := by
      rcases he2 with h | ⟨t, ht, h⟩
      · omega
      · have h1 := hle t ht
        have h2 := j.bd t ht
        omega
    refine ⟨hn, hm50, hle, j.moved _ (by have := j.n0; omega) (fun t ht h => absurd (key t ht).1 h), fun t ht m h1 h2 => ?_⟩
    have hk := (key t ht).2
    have h3 := he1 t ht
    have h4 : m / 16777216 ≠ t.at_ / 16777216 := by unfold turnI at h3; omega
    rw [(place_of (by omega)).2.2.2.2 h4, (place_of (hf t ht)).2.2.2.2 (by omega)]

end Go.Proofs.Ytmkcckkjkfmheaa.Wh

/- Wheel: what it holds, as a list of times and names; sorting; in plain Lean. -/
set_option linter.unusedVariables false
set_option linter.unusedSimpArgs false
namespace Go.Proofs.Ytmkcckkjkfmheaa.Wh
open Go.Sort

def key (t : Tm) : Int × Int := (t.at_, t.h)
def leK (a b : Int × Int) : Bool := decide (a.1 < b.1 ∨ (a.1 = b.1 ∧ a.2 ≤ b.2))
def sortK (K : List (Int × Int)) : List (Int × Int) := K.mergeSort leK

theorem leK_trans (a b c : Int × Int) (h1 : leK a b = true) (h2 : leK b c = true) : leK a c = true := by
  simp only [leK, decide_eq_true_eq] at *
  omega
theorem leK_total (a b : Int × Int) : (leK a b || leK b a) = true := by
  simp only [leK, Bool.or_eq_true, decide_eq_true_eq]
  omega
theorem leK_anti {a b : Int × Int} (h1 : leK a b = true) (h2 : leK b a = true) : a = b := by
  simp only [leK, decide_eq_true_eq] at *
  exact Prod.ext (by omega) (by omega)

theorem sortK_perm (K : List (Int × Int)) : (sortK K).Perm K := List.mergeSort_perm _ _
theorem sortK_pw (K : List (Int × Int)) : (sortK K).Pairwise (fun a b => leK a b = true) := List.pairwise_mergeSort leK_trans leK_total K

/-- One sorted list alone. -/
theorem sortK_of {K K' : List (Int × Int)} (hp : K'.Perm K) (hs : K'.Pairwise (fun a b => leK a b = true)) : K' = sortK K :=
  List.Perm.eq_of_pairwise (le := fun a b => leK a b = true) (fun a b _ _ h1 h2 => leK_anti h1 h2) hs (sortK_pw K) (hp.trans (sortK_perm K).symm)
theorem sortK_eq {K K' : List (Int × Int)} (hp : K'.Perm K) : sortK K' = sortK K := sortK_of ((sortK_perm _).trans hp) (sortK_pw _)

instance : Inhabited Tm := ⟨⟨0, 0, 0, 0⟩⟩

/-- What the closure tells. -/
def cfT (a b : Tm) : Int := if Lib.compareInt a.at_ b.at_ = 0 then Lib.compareInt a.h b.h else Lib.compareInt a.at_ b.at_
def ltT (x y : Tm) : Bool := decide (cfT x y < 0)
theorem ltT_eq (x y : Tm) : ltT x y = decide (x.at_ < y.at_ ∨ (x.at_ = y.at_ ∧ x.h < y.h)) := by
  unfold ltT cfT Lib.compareInt
  congr 1
  simp only [eq_iff_iff]
  split <;> split <;> (try split) <;> (try split) <;> omega
theorem swoT : SWO ltT where
  irrefl x := by rw [ltT_eq]; simp
  trans x y z h1 h2 := by rw [ltT_eq] at *; simp only [decide_eq_true_eq] at *; omega
  ntrans x y z h1 h2 := by rw [ltT_eq] at *; simp only [decide_eq_false_iff_not] at *; omega

/-- What is sorted by the closure reads as the sorted list. -/
theorem sorted_keys {out : List Tm} {d' : Array Tm} (hp : PermIn 0 out.toArray.size out.toArray d') (hs : SortedIn ltT 0 out.toArray.size d') : d'.toList.map key = sortK (out.map key) ∧ d'.toList.Perm out := by
  obtain ⟨hsz, _, hperm⟩ := hp
  have e1 : d'.extract 0 out.toArray.size = d' := by rw [← hsz]; exact Array.extract_size
  rw [e1, Array.extract_size] at hperm
  refine ⟨sortK_of (hperm.map key) ?_, hperm⟩
  rw [List.pairwise_map, List.pairwise_iff_getElem]
  intro i j hi hj hij
  have hi' : i < d'.size := by simpa using hi
  have hj' : j < d'.size := by simpa using hj
  have := hs i j (Nat.zero_le _) hij (by omega)
  rw [getElem!_pos d' j hj', getElem!_pos d' i hi', ltT_eq] at this
  simp only [decide_eq_false_iff_not] at this
  have h2 : leK (key d'[i]) (key d'[j]) = true := by
    unfold leK key
    exact decide_eq_true (by dsimp only; omega)
  simpa using h2

theorem nodup_len : ∀ (l l2 : List Int), l.Nodup → (∀ x ∈ l, x ∈ l2) → l.length ≤ l2.length
  | [], l2, _, _ => Nat.zero_le _
  | x :: l, l2, h, hs => by
    rw [List.nodup_cons] at h
    have hx := hs x (by simp)
    have := nodup_len l (l2.erase x) h.2 (fun y hy => (List.mem_erase_of_ne (fun e => h.1 (by rw [← e]; exact hy))).2 (hs y (by simp [hy])))
    rw [List.length_erase_of_mem hx] at this
    have h2 := List.length_pos_of_mem hx
    simp only [List.length_cons]
    omega

theorem J.len {n : Int} {L : List Tm} {rows : Nat → List Int} {rest : List Int} (j : J n L rows rest) (i : Nat) : (rows i).length ≤ L.length := by
  have := nodup_len (rows i) (L.map Tm.h) (j.rnd i) (fun x hx => by
    obtain ⟨_, t, ht, hh, _⟩ := (j.mem i x).1 hx
    exact List.mem_map.2 ⟨t, ht, hh⟩)
  simpa using this

/-- Put back: the same times and names. -/
theorem putL_back {n : Int} {L : List Tm} {t : Tm} (hnd : (L.map Tm.h).Nodup) (ht : t ∈ L) : ((putL n L t).map key).Perm (L.map key) := by
  induction L with
  | nil => cases ht
  | cons q L ih =>
    rw [List.map_cons, List.nodup_cons] at hnd
    unfold putL at ih ⊢
    by_cases e : q.h = t.h
    · have hq : q = t := by
        rcases List.mem_cons.1 ht with rfl | h
        · rfl
        · exact absurd (List.mem_map.2 ⟨t, h, e.symm⟩) hnd.1
      subst hq
      have hf : L.filter (fun x => decide (x.h ≠ q.h)) = L := List.filter_eq_self.2 (fun a ha => decide_eq_true (fun e => hnd.1 (List.mem_map.2 ⟨a, ha, e⟩)))
      rw [List.filter_cons_of_neg (by simp), hf, List.map_append, List.map_cons]
      exact List.perm_append_comm.trans (by simp [key, laidAt])
    · have ht' : t ∈ L := by
        rcases List.mem_cons.1 ht with rfl | h
        · exact absurd rfl e
        · exact h
      rw [List.filter_cons_of_pos (by simpa using e), List.cons_append, List.map_cons, List.map_cons]
      exact (ih hnd.2 ht').cons _

theorem putL_new {n : Int} {L : List Tm} {t : Tm} (hf : ∀ x ∈ L, x.h ≠ t.h) : putL n L t = L ++ [laidAt n t] := by
  unfold putL
  rw [List.filter_eq_self.2 (fun a ha => decide_eq_true (hf a ha))]

theorem putL_len {n : Int} {L : List Tm} {t : Tm} (hnd : (L.map Tm.h).Nodup) (ht : t ∈ L) : (putL n L t).length = L.length := by
  have := (putL_back (n := n) hnd ht).length_eq
  simpa using this

/-- In parts. -/
theorem keys_split (L : List Tm) (n : Int) : (L.map key).filter (fun p => decide (p.1 ≤ n)) = (L.filter (fun t => decide (t.at_ ≤ n))).map key := by rw [List.filter_map]; rfl
theorem keys_rest (L : List Tm) (n : Int) : (L.map key).filter (fun p => decide (n < p.1)) = (L.filter (fun t => decide (n < t.at_))).map key := by rw [List.filter_map]; rfl

/-- What is told, and what is left. -/
def outK (e : Int) (K : List (Int × Int)) : List Int := (sortK (K.filter (fun p => decide (p.1 ≤ e)))).map Prod.snd
def restK (e : Int) (K : List (Int × Int)) : List (Int × Int) := K.filter (fun p => decide (e < p.1))

theorem split_perm {α : Type} (K : List α) (p : α → Bool) : (K.filter p ++ K.filter (fun x => !p x)).Perm K := List.filter_append_perm p K

end Go.Proofs.Ytmkcckkjkfmheaa.Wh

/- Wheel: rows of handles and of timers; a map of timers, as a list. -/
set_option linter.unusedVariables false
set_option linter.unusedSimpArgs false
namespace Go.Proofs.Ytmkcckkjkfmheaa.Wh
open Go.RowKit Go.Maps Go.Proofs.Ytmkcckkjkfmheaa.Base Go.Proofs.Ytmkcckkjkfmheaa.Rws Go.Proofs.YtmkcckkjkfmheaaW.PrintWords Go.Proofs.YtmkcckkjkfmheaaW.PrintMore
attribute [local go_sem] max2_mx min2_mn max_two min_two max_three min_three max_four min_four

theorem info3 : (Try.prog.info? 3).map (fun i => (i.zero, i.size, i.bytes)) = some (some (.int .i64 0), 1, 8) := by kernel_rfl
theorem info60 : (Try.prog.info? 92).map (fun i => (i.zero, i.size, i.bytes)) = some (some (.agg #[.int .i64 0, .int .i64 0, .int .i64 0, .int .i64 0]), 4, 32) := by kernel_rfl

/-- Whole numbers of the call's own. -/
def Ks (w : World) (P : Nat → Prop) (v : Value) (L : List Int) : Prop := Row 1 3 w P v L.length (L.map (Value.int .i64))

theorem Ks.app {W : World} {P : Nat → Prop} {v : Value} {L : List Int} (h : Ks W P v L) (hP : ∀ k, W.heap.size ≤ k → P k) (hl : L.length ≤ 20000) (x : Int) (ty : TypeId) :
    ∃ v1 w1, (Builtin.append_ #[42, 42] ty #[v, .slice (some ⟨W.heap.size, 0, none⟩) 1 1]).run Try.prog (W.alloc (.cells #[.int .i64 x] 3)) = .ok v1 w1 ∧ Ks w1 P v1 (L ++ [x]) ∧ Only (fun k => v.ownBlock = some k) W w1 := by
  have hO : Only (fun k => v.ownBlock = some k) W (W.alloc (.cells #[.int .i64 x] 3)) := (Only.refl _ W).alloc _
  have hnew := heap_alloc_new W (.cells #[.int .i64 x] 3)
  have hrow : Row 1 3 (W.alloc (.cells #[.int .i64 x] 3)) P v L.length (L.map (Value.int .i64)) := Row.keep h (fun g _ hg => heap_alloc_old W _ hg)
  have hsz : (W.alloc (.cells #[.int .i64 x] 3)).heap.size = W.heap.size + 1 := by show (W.heap.push _).size = _; simp
  generalize W.alloc (.cells #[.int .i64 x] 3) = W1 at *
  obtain ⟨v1, w1, hr, hR, ho⟩ := Row.app (ty := ty) hrow Try.underlying42 info3 (by rfl) (fun k hk => hP k (by omega)) ⟨W.heap.size, 0, none⟩ 1 1 [.int .i64 x] (by simp) (fun i u hu => by
    rw [Addr.add_lit, Nat.zero_add]
    refine cell_at hnew i ?_
    simpa using hu) (by simp [Value.oneCell']) (by omega) (by omega) (by omega)
  refine ⟨v1, w1, hr, ?_, hO.trans ho⟩
  unfold Ks
  rw [List.length_append, List.length_singleton, List.map_append]
  simpa using hR

theorem Ks.ne {w : World} {P : Nat → Prop} {v : Value} {L : List Int} (h : Ks w P v L) {g : Nat} {cs : Array Value} {t : TypeId} (hg : w.heap[g]? = some (.cells cs t (0, 0))) (ht : t ≠ 3 := by decide) : ¬ v.ownBlock = some g := Row.ne h hg ht

theorem Row.neMap {sz : Nat} {e : TypeId} {w : World} {P : Nat → Prop} {v : Value} {n : Nat} {xs : List Value} (h : Row sz e w P v n xs) {g : Nat} {es : Array MapEntry} {c : Nat} (hg : w.heap[g]? = some (.map es c)) : v.ownBlock ≠ some g := by
  intro hv
  rcases h with ⟨rfl, _⟩ | ⟨q, o, c, cells, rfl, _, hh, _⟩
  · simp [Value.ownBlock] at hv
  · simp [Value.ownBlock] at hv
    subst hv
    rw [hg] at hh
    cases hh

theorem Row.apart {sz sz' : Nat} {e e' : TypeId} {w : World} {P P' : Nat → Prop} {v v' : Value} {n n' : Nat} {xs xs' : List Value} (h : Row sz e w P v n xs) (h' : Row sz' e' w P' v' n' xs') (he : e ≠ e') {k : Nat} (hk : v.ownBlock = some k) : v'.ownBlock ≠ some k := by
  rcases h with ⟨rfl, _⟩ | ⟨q, o, c, cells, rfl, _, hh, _⟩
  · simp [Value.ownBlock] at hk
  · simp [Value.ownBlock] at hk
    subst hk
    exact Row.ne h' hh he

def encT (t : Tm) : List Value := [.int .i64 t.at_, .int .i64 t.h, .int .i64 t.lv, .int .i64 t.sl]
def Tm.v (t : Tm) : Value := .agg #[.int .i64 t.at_, .int .i64 t.h, .int .i64 t.lv, .int .i64 t.sl]

/-- Timers of the call's own. -/
def Ts (w : World) (P : Nat → Prop) (v : Value) (L : List Tm) : Prop := Row 4 92 w P v L.length (L.flatMap encT)

theorem Ts.app {W : World} {P : Nat → Prop} {v : Value} {L : List Tm} (h : Ts W P v L) (hP : ∀ k, W.heap.size ≤ k → P k) (hl : L.length ≤ 20000) (x : Tm) (ty : TypeId) :
    ∃ v1 w1, (Builtin.append_ #[93, 93] ty #[v, .slice (some ⟨W.heap.size, 0, none⟩) 1 1]).run Try.prog (W.alloc (.cells #[.int .i64 x.at_, .int .i64 x.h, .int .i64 x.lv, .int .i64 x.sl] 92)) = .ok v1 w1 ∧ Ts w1 P v1 (L ++ [x]) ∧ Only (fun k => v.ownBlock = some k) W w1 := by
  have hO : Only (fun k => v.ownBlock = some k) W (W.alloc (.cells #[.int .i64 x.at_, .int .i64 x.h, .int .i64 x.lv, .int .i64 x.sl] 92)) := (Only.refl _ W).alloc _
  have hnew := heap_alloc_new W (.cells #[.int .i64 x.at_, .int .i64 x.h, .int .i64 x.lv, .int .i64 x.sl] 92)
  have hrow : Row 4 92 (W.alloc (.cells #[.int .i64 x.at_, .int .i64 x.h, .int .i64 x.lv, .int .i64 x.sl] 92)) P v L.length (L.flatMap encT) := Row.keep h (fun g _ hg => heap_alloc_old W _ hg)
  have hsz : (W.alloc (.cells #[.int .i64 x.at_, .int .i64 x.h, .int .i64 x.lv, .int .i64 x.sl] 92)).heap.size = W.heap.size + 1 := by show (W.heap.push _).size = _; simp
  generalize W.alloc (.cells #[.int .i64 x.at_, .int .i64 x.h, .int .i64 x.lv, .int .i64 x.sl] 92) = W1 at *
  obtain ⟨v1, w1, hr, hR, ho⟩ := Row.app (ty := ty) hrow Try.underlying93 info60 (by rfl) (fun k hk => hP k (by omega)) ⟨W.heap.size, 0, none⟩ 1 1 (encT x) (by simp [encT]) (fun i u hu => by
    rw [Addr.add_lit, Nat.zero_add]
    refine cell_at hnew i ?_
    simpa [encT] using hu) (by simp [encT, Value.oneCell']) (by omega) (by omega) (by omega)
  refine ⟨v1, w1, hr, ?_, hO.trans ho⟩
  unfold Ts
  rw [List.length_append, List.length_singleton, List.flatMap_append]
  simpa using hR

theorem encT_at : ∀ (L : List Tm) (i j : Nat) (p : Tm), L[i]? = some p → j < 4 → (L.flatMap encT)[i * 4 + j]? = (encT p)[j]?
  | [], i, j, p, h, _ => by simp at h
  | q :: L, 0, j, p, h, hj => by
    simp at h
    subst h
    rw [List.flatMap_cons, Nat.zero_mul, Nat.zero_add, List.getElem?_append_left (by simpa [encT] using hj)]
  | q :: L, i + 1, j, p, h, hj => by
    rw [List.flatMap_cons, List.getElem?_append_right (by simp [encT]; omega)]
    rw [show (i + 1) * 4 + j - (encT q).length = i * 4 + j by simp [encT]; omega]
    exact encT_at L i j p (by simpa using h) hj

/-! ### A map of timers -/
theorem law : Keyed Try.prog 3 := int_keyed Try.underlying3
theorem wf64 {x : Int} (h0 : -9223372036854775808 ≤ x) (h1 : x ≤ 9223372036854775807) : (Lit.int .i64 x).wf = true := WalkArith.wf_i64 ⟨h0, h1⟩
theorem keyI {x : Int} (h : (Lit.int .i64 x).wf = true) : keyOf Try.prog 3 (.int .i64 x) = some (.int .i64 x) := Maps.keyOf_int_mk Try.underlying3 h

def datT (t : Tm) : DataW Unit := .agg [.lit (.int .i64 t.at_), .lit (.int .i64 t.h), .lit (.int .i64 t.lv), .lit (.int .i64 t.sl)]
/-- How a timer reads. -/
def rdT : Value → Option (DataW Unit × List MemPlace)
  | .agg cs => match cs.toList with
    | [.int .i64 a, .int .i64 b, .int .i64 c, .int .i64 d] => some (datT ⟨a, b, c, d⟩, [])
    | _ => none
  | _ => none

theorem rdT_v (t : Tm) : rdT t.v = some (datT t, []) := rfl

theorem rdT_inv {v : Value} {z : DataW Unit × List MemPlace} (h : rdT v = some z) : ∃ t : Tm, v = t.v ∧ z = (datT t, []) := by
  unfold rdT at h
  split at h
  · rename_i cs
    split at h
    · rename_i a b c d hcs
      injection h with h
      subst h
      refine ⟨⟨a, b, c, d⟩, ?_, rfl⟩
      unfold Tm.v
      congr 1
      apply Array.toList_inj.1
      exact hcs
    · cases h
  · cases h

theorem datT_inj {t t' : Tm} (h : datT t = datT t') : t = t' := by
  unfold datT at h
  simp at h
  obtain ⟨h1, h2, h3, h4⟩ := h
  cases t; cases t'; simp_all

theorem same_int {a b : Int} (ha : (Lit.int .i64 a).wf = true) (hb : (Lit.int .i64 b).wf = true) : (Lit.int .i64 a).sameKey (.int .i64 b) = decide (a = b) := by
  by_cases e : a = b
  · subst e
    simp [WideAt.sameKey_self (law.key (keyI ha))]
  · have hne : (Lit.int .i64 a) ≠ .int .i64 b := fun e2 => e (by injection e2)
    simp [sameKey_ne hne, e]

/-- An entry as the map reads. -/
def ent (t : Tm) : Lit × DataW Unit := (.int .i64 t.h, datT t)

/-- The map reads as this list, in whatever order. -/
structure Holds (D : DataW Unit) (L : List Tm) : Prop where
  es : ∃ es, D = .map es ∧ es.Perm (L.map ent)
  wf : ∀ t ∈ L, (Lit.int .i64 t.h).wf = true
  nd : (L.map Tm.h).Nodup

theorem Holds.empty : Holds (.map []) [] := ⟨⟨[], rfl, .refl _⟩, by simp, by simp⟩

theorem Holds.size {D : DataW Unit} {L : List Tm} (h : Holds D L) : Maps.size D = L.length := by
  obtain ⟨es, rfl, hp⟩ := h.es
  rw [size_eq, hp.length_eq, List.length_map]

theorem any_ent {L : List Tm} (h : ∀ t ∈ L, (Lit.int .i64 t.h).wf = true) (k : Int) (hk : (Lit.int .i64 k).wf = true) : (L.map ent).any (fun p => p.1.sameKey (.int .i64 k)) = L.any (fun t => decide (t.h = k)) := by
  rw [List.any_map]
  induction L with
  | nil => rfl
  | cons q L ih =>
    rw [List.any_cons, List.any_cons, ih (fun p hp => h p (List.mem_cons_of_mem _ hp))]
    simp only [Function.comp, ent]
    rw [same_int (h q (by simp)) hk]

theorem filter_ent {L : List Tm} (h : ∀ t ∈ L, (Lit.int .i64 t.h).wf = true) (k : Int) (hk : (Lit.int .i64 k).wf = true) : (L.map ent).filter (ChangeMaps.notKey (.int .i64 k)) = (L.filter (fun t => decide (t.h ≠ k))).map ent := by
  rw [List.filter_map]
  congr 1
  refine List.filter_congr fun q hq => ?_
  simp only [Function.comp, ent, ChangeMaps.notKey]
  rw [same_int (h q hq) hk]
  simp

theorem Holds.has {D : DataW Unit} {L : List Tm} (h : Holds D L) (k : Int) (hk : (Lit.int .i64 k).wf = true) : Maps.has D (.int .i64 k) = L.any (fun t => decide (t.h = k)) := by
  obtain ⟨es, rfl, hp⟩ := h.es
  rw [has_eq, hp.any_eq, any_ent h.wf k hk]

theorem Holds.at_ {D : DataW Unit} {L : List Tm} (h : Holds D L) {t : Tm} (ht : t ∈ L) (z : DataW Unit) : D.atKey (.int .i64 t.h) z = datT t := by
  have hw := h.wf t ht
  obtain ⟨es, rfl, hp⟩ := h.es
  unfold DataW.atKey
  have hm : ent t ∈ es := hp.mem_iff.2 (List.mem_map.2 ⟨t, ht, rfl⟩)
  cases hf : es.find? (fun p => p.1.sameKey (.int .i64 t.h)) with
  | none =>
    have := List.find?_eq_none.1 hf _ hm
    simp only [ent] at this
    rw [same_int hw hw] at this
    simp at this
  | some p =>
    have hm2 := List.mem_of_find?_eq_some hf
    have hs := List.find?_some hf
    obtain ⟨q, hq, rfl⟩ := List.mem_map.1 (hp.mem_iff.1 hm2)
    simp only [ent] at hs
    rw [same_int (h.wf q hq) hw] at hs
    simp only [decide_eq_true_eq] at hs
    have hqt : q = t := by
      have hn := h.nd
      clear hf hm hm2 hp
      clear h
      induction L with
      | nil => cases ht
      | cons r L ih =>
        rw [List.map_cons, List.nodup_cons] at hn
        rcases List.mem_cons.1 ht with rfl | h1
        · rcases List.mem_cons.1 hq with rfl | h2
          · rfl
          · exact absurd (List.mem_map.2 ⟨_, h2, hs⟩) hn.1
        · rcases List.mem_cons.1 hq with rfl | h2
          · exact absurd (List.mem_map.2 ⟨_, h1, hs.symm⟩) hn.1
          · exact ih h1 h2 hn.2
    subst hqt
    simp only [hf, ent]

theorem Holds.del {D : DataW Unit} {L : List Tm} (h : Holds D L) (k : Int) (hk : (Lit.int .i64 k).wf = true) : Holds (D.del (.int .i64 k)) (L.filter (fun t => decide (t.h ≠ k))) := by
  obtain ⟨es, rfl, hp⟩ := h.es
  refine ⟨⟨_, DataW.del_eq _ _, ?_⟩, fun p hp => h.wf p (List.mem_filter.1 hp).1, h.nd.sublist ((List.filter_sublist).map _)⟩
  rw [← filter_ent h.wf k hk]
  exact hp.filter _

theorem Holds.put {D : DataW Unit} {L : List Tm} (h : Holds D L) (t : Tm) (hk : (Lit.int .i64 t.h).wf = true) : Holds (D.put (.int .i64 t.h) (datT t)) (L.filter (fun x => decide (x.h ≠ t.h)) ++ [t]) := by
  obtain ⟨es, rfl, hp⟩ := h.es
  refine ⟨⟨_, DataW.put_eq _ _ _, ?_⟩, ?_, ?_⟩
  · have h1 := hp.filter (ChangeMaps.notKey (.int .i64 t.h))
    rw [filter_ent h.wf t.h hk] at h1
    refine (WideShapes.insert_perm _ _).trans ((h1.cons _).trans ?_)
    rw [List.map_append]
    exact List.perm_append_comm (l₁ := [ent t])
  · intro p hp
    rcases List.mem_append.1 hp with h1 | h1
    · exact h.wf p (List.mem_filter.1 h1).1
    · simp at h1
      subst h1
      exact hk
  · rw [List.map_append, List.nodup_append]
    refine ⟨h.nd.sublist ((List.filter_sublist).map _), by simp, fun a ha b hb => ?_⟩
    simp at hb
    subst hb
    obtain ⟨p, hp, rfl⟩ := List.mem_map.1 ha
    simpa using (List.mem_filter.1 hp).2

/-- Block b is a map that reads as this list. -/
def TM (w : World) (b : Nat) (L : List Tm) : Prop := ∃ D : DataW Unit, w.ownsMap Try.prog 3 rdT b L.length D ∧ Holds D L

theorem tight {w : World} {b n : Nat} {D : DataW Unit} {L : List Tm} (h : w.ownsMap Try.prog 3 rdT b n D) (hh : Holds D L) : TM w b L := by
  have hs := hh.size
  refine ⟨D, ?_, hh⟩
  obtain ⟨es, clock, hb, F, _, rfl⟩ := h
  rw [Maps.size, length_sorted] at hs
  exact ⟨es, clock, hb, F, by simpa using Nat.le_of_eq hs, rfl⟩

theorem TM.only {w w' : World} {b : Nat} {L : List Tm} {S : Nat → Prop} (h : TM w b L) (k : Only S w w') (hn : ¬ S b) : TM w' b L := by
  obtain ⟨D, ⟨es, clock, hb, F, hs, hD⟩, hh⟩ := h
  exact ⟨D, ⟨es, clock, k.blk hb hn, F, hs, hD⟩, hh⟩

theorem TM.lt {w : World} {b : Nat} {L : List Tm} (h : TM w b L) : b < w.heap.size := by
  obtain ⟨D, ho, _⟩ := h
  exact ho.lt

theorem TM.isMap {w : World} {b : Nat} {L : List Tm} (h : TM w b L) : ∃ es c, w.heap[b]? = some (.map es c) := by
  obtain ⟨D, ⟨es, clock, hb, _⟩, _⟩ := h
  exact ⟨es, clock, hb⟩

theorem TM.ne {w : World} {g b : Nat} {L : List Tm} {cs : Array Value} {t : TypeId} (h : TM w b L) (hg : w.heap[g]? = some (.cells cs t (0, 0))) : g ≠ b := by
  rintro rfl
  obtain ⟨es, c, hb⟩ := h.isMap
  rw [hb] at hg
  cases hg

theorem zero60 (w : World) : (zeroValue 92).run Try.prog w = .ok (Tm.v ⟨0, 0, 0, 0⟩) w := by kernel_rfl

theorem TM.look {w : World} {b : Nat} {L : List Tm} (h : TM w b L) {t : Tm} (ht : t ∈ L) : (Instr.lookup 85 (.map (some b)) (.int .i64 t.h) false).run Try.prog w = .ok t.v w := by
  obtain ⟨D, ho, hh⟩ := h
  obtain ⟨v, ps, hr, hv⟩ := ho.lookup law Try.underlying85 (zero60 w) (rdT_v _) (keyI (hh.wf t ht))
  rw [hh.at_ ht] at hv
  obtain ⟨t', rfl, ht'⟩ := rdT_inv hv
  obtain rfl : t = t' := datT_inj (congrArg Prod.fst ht')
  exact hr

theorem TM.look_ok {w : World} {b : Nat} {L : List Tm} (h : TM w b L) (k : Int) (hk : (Lit.int .i64 k).wf = true) :
    (∃ t ∈ L, t.h = k ∧ (Instr.lookup 85 (.map (some b)) (.int .i64 k) true).run Try.prog w = .ok (.tuple #[t.v, .bool true]) w) ∨ ((∀ t ∈ L, t.h ≠ k) ∧ (Instr.lookup 85 (.map (some b)) (.int .i64 k) true).run Try.prog w = .ok (.tuple #[Tm.v ⟨0, 0, 0, 0⟩, .bool false]) w) := by
  obtain ⟨D, ho, hh⟩ := h
  obtain ⟨v, ps, hr, hv⟩ := ho.look_ok law Try.underlying85 (zero60 w) (rdT_v _) (keyI hk)
  rw [hh.has k hk] at hr
  by_cases hm : ∃ t ∈ L, t.h = k
  · obtain ⟨t, ht, rfl⟩ := hm
    left
    refine ⟨t, ht, rfl, ?_⟩
    rw [hh.at_ ht] at hv
    obtain ⟨t', rfl, ht'⟩ := rdT_inv hv
    rw [← datT_inj (congrArg Prod.fst ht')] at hr
    rw [hr, List.any_eq_true.2 ⟨t, ht, by simp⟩]
  · right
    have hn : ∀ t ∈ L, t.h ≠ k := fun t ht e => hm ⟨t, ht, e⟩
    refine ⟨hn, ?_⟩
    have hany : L.any (fun t => decide (t.h = k)) = false := by
      rw [List.any_eq_false]
      intro t ht
      simpa using hn t ht
    have hhas : Maps.has D (.int .i64 k) = false := by rw [hh.has k hk]; exact hany
    rw [Maps.atKey_of_not_has hhas] at hv
    obtain ⟨t', rfl, ht'⟩ := rdT_inv hv
    rw [← datT_inj (congrArg Prod.fst ht')] at hr
    rw [hr, hany]

end Go.Proofs.Ytmkcckkjkfmheaa.Wh

/- Wheel: the slots' functions. -/
set_option linter.unusedVariables false
set_option linter.unusedSimpArgs false
set_option maxRecDepth 100000
namespace Go.Proofs.Ytmkcckkjkfmheaa.Wh
open Go.RowKit Go.Maps Go.Proofs.Ytmkcckkjkfmheaa.Base Go.Proofs.Ytmkcckkjkfmheaa.Rws Go.Proofs.YtmkcckkjkfmheaaW.PrintWords Go.Proofs.YtmkcckkjkfmheaaW.PrintMore
attribute [local go_sem] max2_mx min2_mn max_two min_two max_three min_three max_four min_four

theorem clamp_p (a : Int) (w : World) : Calls Try.prog 26 #[.int .i64 a] w fun e w' => e = .returned (.int .i64 (cl a)) ∧ w = w' := by
  have h := cl_mn a
  go_enter Try.func26, Try.ntmps26
  go_wp2
  go_ret
  exact ⟨rfl, rfl⟩

theorem and63 (x : Int) (h0 : 0 ≤ x) (h1 : x < 9223372036854775808) : Go.bits .and .i64 x 63 = x % 64 :=
  bits_mask .i64 63 (by decide) (fun n h0 h1 => by rw [IntKind.wrap_i64]; omega) 6 (by decide) x h0 h1

theorem xor_nat (a b : Nat) (ha : a < 2 ^ 63) (hb : b < 2 ^ 63) : Go.bits .xor .i64 a b = ((a ^^^ b : Nat) : Int) := by
  have ha' : a % 2 ^ IntKind.i64.bits = a := Nat.mod_eq_of_lt (Nat.lt_of_lt_of_le ha (by decide))
  have hb' : b % 2 ^ IntKind.i64.bits = b := Nat.mod_eq_of_lt (Nat.lt_of_lt_of_le hb (by decide))
  simp only [bits, BitVec.ofInt_natCast, BitVec.toNat_xor, BitVec.toNat_ofNat, ha', hb']
  have hx := Nat.xor_lt_two_pow ha hb
  rw [IntKind.wrap_i64]; omega

/-- What is put together by exclusive or is nothing above a bit just where both are the same above it. -/
theorem xor_above (n x : Int) (hn : 0 ≤ n ∧ n ≤ 1125899906842624) (hx : 0 ≤ x ∧ x ≤ 1125899906842624) (j : Nat) (hj : j ≤ 64) :
    shr .i64 (Go.bits .xor .i64 n x) j = 0 ↔ n / 2 ^ j = x / 2 ^ j := by
  obtain ⟨a, rfl⟩ := Int.eq_ofNat_of_zero_le hn.1
  obtain ⟨b, rfl⟩ := Int.eq_ofNat_of_zero_le hx.1
  rw [xor_nat a b (by omega) (by omega)]
  unfold shr
  rw [Int.toNat_natCast, Nat.min_eq_left (by simpa [IntKind.bits] using hj)]
  have e : ∀ m : Nat, (m : Int) / 2 ^ j = ((m / 2 ^ j : Nat) : Int) := fun m => by simp
  rw [e, e, e, Int.natCast_inj, show (0 : Int) = ((0 : Nat) : Int) from rfl, Int.natCast_inj]
  rw [← Nat.shiftRight_eq_div_pow, ← Nat.shiftRight_eq_div_pow, ← Nat.shiftRight_eq_div_pow, Nat.shiftRight_xor_distrib]
  generalize a >>> j = p
  generalize b >>> j = q
  constructor
  · intro h
    have h2 : p ^^^ q ^^^ q = 0 ^^^ q := by rw [h]
    rw [Nat.xor_assoc, Nat.xor_self, Nat.xor_zero, Nat.zero_xor] at h2
    exact h2
  · intro h; rw [h, Nat.xor_self]

theorem part_p (t : Int) (l : Int) (hl : l = 0 ∨ l = 1 ∨ l = 2 ∨ l = 3) (w : World) : Calls Try.prog 60 #[.int .i64 t, .int .i64 l] w fun e w' => e = .returned (.int .i64 (partI (cl t) l)) ∧ w = w' := by
  obtain ⟨x, hx⟩ : ∃ x, x = cl t := ⟨_, rfl⟩
  have hb := cl_bounds t
  have HC := Lib.hid (clamp_p t)
  rw [← hx] at HC hb ⊢
  clear hx
  have s1 : shr .i64 x 6 = x / 64 := by simp [shr, IntKind.bits]
  have s2 : shr .i64 x 12 = x / 4096 := by simp [shr, IntKind.bits]
  have s3 : shr .i64 x 18 = x / 262144 := by simp [shr, IntKind.bits]
  rcases hl with rfl | rfl | rfl | rfl
  · go_enter Try.func60, Try.ntmps60
    go_wp2_with (go_at_call 26; refine (HC.out _).mono ?_; rintro e w' ⟨rfl, rfl⟩)
    go_ret
    refine ⟨congrArg (fun z => Ending.returned (Value.int .i64 z)) ?_, rfl⟩
    rw [part0]
    exact and63 x (by omega) (by omega)
  · go_enter Try.func60, Try.ntmps60
    go_wp2_with (go_at_call 26; refine (HC.out _).mono ?_; rintro e w' ⟨rfl, rfl⟩)
    go_ret
    refine ⟨congrArg (fun z => Ending.returned (Value.int .i64 z)) ?_, rfl⟩
    rw [part1]
    exact and63 (x / 64) (by omega) (by omega)
  · go_enter Try.func60, Try.ntmps60
    go_wp2_with (go_at_call 26; refine (HC.out _).mono ?_; rintro e w' ⟨rfl, rfl⟩)
    go_ret
    refine ⟨congrArg (fun z => Ending.returned (Value.int .i64 z)) ?_, rfl⟩
    rw [part2]
    exact and63 (x / 4096) (by omega) (by omega)
  · go_enter Try.func60, Try.ntmps60
    go_wp2_with (go_at_call 26; refine (HC.out _).mono ?_; rintro e w' ⟨rfl, rfl⟩)
    go_ret
    refine ⟨congrArg (fun z => Ending.returned (Value.int .i64 z)) ?_, rfl⟩
    rw [part3]
    exact and63 (x / 262144) (by omega) (by omega)

theorem turn_p (t : Int) (w : World) : Calls Try.prog 62 #[.int .i64 t] w fun e w' => e = .returned (.int .i64 (turnI (cl t))) ∧ w = w' := by
  obtain ⟨x, hx⟩ : ∃ x, x = cl t := ⟨_, rfl⟩
  have hb := cl_bounds t
  have HC := Lib.hid (clamp_p t)
  rw [← hx] at HC hb ⊢
  clear hx
  go_enter Try.func62, Try.ntmps62
  go_wp2_with (go_at_call 26; refine (HC.out _).mono ?_; rintro e w' ⟨rfl, rfl⟩)
  go_ret
  refine ⟨congrArg (fun z => Ending.returned (Value.int .i64 z)) ?_, rfl⟩
  rfl

set_option maxHeartbeats 2000000 in
theorem start_p (now l s : Int) (hl : l = 0 ∨ l = 1 ∨ l = 2 ∨ l = 3) (h0 : 0 ≤ s) (h1 : s < 64) (w : World) : Calls Try.prog 61 #[.int .i64 now, .int .i64 l, .int .i64 s] w fun e w' => e = .returned (.int .i64 (startI (cl now) l s)) ∧ Only (fun _ => False) w w' := by
  obtain ⟨n, hx⟩ : ∃ x, x = cl now := ⟨_, rfl⟩
  have hb := cl_bounds now
  have HC := Lib.hid (clamp_p now)
  rw [← hx] at HC hb ⊢
  clear hx
  have d0 : decide (s < 0) = false := decide_eq_false (by omega)
  have d1 : decide (64 ≤ s) = false := decide_eq_false (by omega)
  have wv : ∀ x : Int, 0 ≤ x → x < 9223372036854775808 → IntKind.i64.wrap x = x := fun x h0 h1 => by rw [IntKind.wrap_i64]; omega
  rcases hl with rfl | rfl | rfl | rfl
  · go_enter Try.func61, Try.ntmps61
    go_wp2_with (go_at_call 26; refine (HC.out _).mono ?_; rintro e w' ⟨rfl, rfl⟩)
    go_quiet (fail)
    go_wp2
    go_ret
    refine ⟨congrArg (fun z => Ending.returned (Value.int .i64 z)) ?_, (Only.refl _ _).drewN _⟩
    rw [start0]
  · go_enter Try.func61, Try.ntmps61
    go_wp2_with (go_at_call 26; refine (HC.out _).mono ?_; rintro e w' ⟨rfl, rfl⟩)
    go_quiet (fail)
    go_wp2
    go_ret
    refine ⟨congrArg (fun z => Ending.returned (Value.int .i64 z)) ?_, (Only.refl _ _).drewN _⟩
    rw [start1]
  · go_enter Try.func61, Try.ntmps61
    go_wp2_with (go_at_call 26; refine (HC.out _).mono ?_; rintro e w' ⟨rfl, rfl⟩)
    go_quiet (fail)
    go_wp2
    go_ret
    refine ⟨congrArg (fun z => Ending.returned (Value.int .i64 z)) ?_, (Only.refl _ _).drewN _⟩
    rw [start2]
  · go_enter Try.func61, Try.ntmps61
    go_wp2_with (go_at_call 26; refine (HC.out _).mono ?_; rintro e w' ⟨rfl, rfl⟩)
    go_quiet (fail)
    go_wp2
    go_ret
    refine ⟨congrArg (fun z => Ending.returned (Value.int .i64 z)) ?_, (Only.refl _ _).drewN _⟩
    rw [start3]

set_option maxHeartbeats 2000000 in
theorem place_p (now t : Int) (w : World) : Calls Try.prog 59 #[.int .i64 now, .int .i64 t] w fun e w' => e = .returned (.tuple #[.int .i64 (place (cl now) (cl t)).1, .int .i64 (place (cl now) (cl t)).2]) ∧ w = w' := by
  obtain ⟨n, hx⟩ : ∃ x, x = cl now := ⟨_, rfl⟩
  obtain ⟨x, hy⟩ : ∃ x, x = cl t := ⟨_, rfl⟩
  have hn := cl_bounds now
  have hb := cl_bounds t
  have HC := Lib.hid (clamp_p now)
  have HD := Lib.hid (clamp_p t)
  rw [← hx] at HC hn ⊢
  rw [← hy] at HD hb ⊢
  have cn : cl n = n := cl_same _ hn.1 hn.2
  have cx : cl x = x := cl_same _ hb.1 hb.2
  have HP : Hid (∀ l, l = 0 ∨ l = 1 ∨ l = 2 ∨ l = 3 → ∀ w, Calls Try.prog 60 #[.int .i64 x, .int .i64 l] w fun e w' => e = .returned (.int .i64 (partI x l)) ∧ w = w') := Lib.hid (fun l hl w => by have := part_p x l hl w; rw [cx] at this; exact this)
  have HQ : Hid (∀ w, Calls Try.prog 60 #[.int .i64 n, .int .i64 0] w fun e w' => e = .returned (.int .i64 (partI n 0)) ∧ w = w') := Lib.hid (fun w => by have := part_p n 0 (.inl rfl) w; rw [cn] at this; exact this)
  clear hx hy cn cx
  by_cases h : x ≤ n
  · rw [place_past h]
    have hd : decide (x ≤ n) = true := decide_eq_true h
    clear h
    go_enter Try.func59, Try.ntmps59
    go_wp2_with (
      first
      | (go_at_call 60; refine (HQ.out _).mono ?_; rintro e w' ⟨rfl, rfl⟩)
      | (go_at_call 26; refine (HC.out _).mono ?_; rintro e w' ⟨rfl, rfl⟩)
      | (go_at_call 26; refine (HD.out _).mono ?_; rintro e w' ⟨rfl, rfl⟩))
    go_ret2
    rw [part0]
    exact ⟨rfl, rfl⟩
  · have hd : decide (x ≤ n) = false := decide_eq_false h
    have hlt : n < x := by omega
    clear h
    obtain ⟨p0, p1, p2, p3, p4⟩ := place_of hlt
    have e1 : shr .i64 (Go.bits .xor .i64 n x) 6 = Go.bits .xor .i64 n x / 64 := by simp [shr, IntKind.bits]
    have e2 : shr .i64 (Go.bits .xor .i64 n x) 12 = Go.bits .xor .i64 n x / 4096 := by simp [shr, IntKind.bits]
    have e3 : shr .i64 (Go.bits .xor .i64 n x) 18 = Go.bits .xor .i64 n x / 262144 := by simp [shr, IntKind.bits]
    have e4 : shr .i64 (Go.bits .xor .i64 n x) 24 = Go.bits .xor .i64 n x / 16777216 := by simp [shr, IntKind.bits]
    have x1 : Go.bits .xor .i64 n x / 64 = 0 ↔ n / 64 = x / 64 := by rw [← e1]; exact xor_above n x hn hb 6 (by decide)
    have x2 : Go.bits .xor .i64 n x / 4096 = 0 ↔ n / 4096 = x / 4096 := by rw [← e2]; exact xor_above n x hn hb 12 (by decide)
    have x3 : Go.bits .xor .i64 n x / 262144 = 0 ↔ n / 262144 = x / 262144 := by rw [← e3]; exact xor_above n x hn hb 18 (by decide)
    have x4 : Go.bits .xor .i64 n x / 16777216 = 0 ↔ n / 16777216 = x / 16777216 := by rw [← e4]; exact xor_above n x hn hb 24 (by decide)
    clear e1 e2 e3 e4 hb hn hlt
    have fz : ∀ a : Int, a ≠ 0 → (a == 0) = false := fun a h => by simp [h]
    have tz : ∀ a : Int, a = 0 → (a == 0) = true := fun a h => by simp [h]
    by_cases g0 : n / 64 = x / 64
    · rw [p0 g0]
      have z0 := tz _ (x1.2 g0)
      clear x1 x2 x3 x4 p0 p1 p2 p3 p4 fz tz g0
      go_enter Try.func59, Try.ntmps59
      go_wp2_with (
        first
        | (go_at_call 26; refine (HC.out _).mono ?_; rintro e w' ⟨rfl, rfl⟩)
        | (go_at_call 26; refine (HD.out _).mono ?_; rintro e w' ⟨rfl, rfl⟩))
      refine wp_loop_rounds 1 ?_
      rw [rounds_succ]
      go_wp2_with (go_at_call 60; refine (HP.out 0 (by decide) _).mono ?_; rintro e w' ⟨rfl, rfl⟩)
      go_ret2
      rw [part0]
      exact ⟨rfl, rfl⟩
    by_cases g1 : n / 4096 = x / 4096
    · rw [p1 g0 g1]
      have z0 := fz _ (fun h => g0 (x1.1 h))
      have z1 := tz _ (x2.2 g1)
      clear x1 x2 x3 x4 p0 p1 p2 p3 p4 fz tz g0 g1
      go_enter Try.func59, Try.ntmps59
      go_wp2_with (
        first
        | (go_at_call 26; refine (HC.out _).mono ?_; rintro e w' ⟨rfl, rfl⟩)
        | (go_at_call 26; refine (HD.out _).mono ?_; rintro e w' ⟨rfl, rfl⟩))
      refine wp_loop_rounds 2 ?_
      rw [rounds_succ]
      go_wp2
      rw [rounds_succ]
      go_wp2_with (go_at_call 60; refine (HP.out 1 (by decide) _).mono ?_; rintro e w' ⟨rfl, rfl⟩)
      go_ret2
      rw [part1]
      exact ⟨rfl, rfl⟩
    by_cases g2 : n / 262144 = x / 262144
    · rw [p2 g1 g2]
      have z0 := fz _ (fun h => g0 (x1.1 h))
      have z1 := fz _ (fun h => g1 (x2.1 h))
      have z2 := tz _ (x3.2 g2)
      clear x1 x2 x3 x4 p0 p1 p2 p3 p4 fz tz g0 g1 g2
      go_enter Try.func59, Try.ntmps59
      go_wp2_with (
        first
        | (go_at_call 26; refine (HC.out _).mono ?_; rintro e w' ⟨rfl, rfl⟩)
        | (go_at_call 26; refine (HD.out _).mono ?_; rintro e w' ⟨rfl, rfl⟩))
      refine wp_loop_rounds 3 ?_
      rw [rounds_succ]
      go_wp2
      rw [rounds_succ]
      go_wp2
      rw [rounds_succ]
      go_wp2_with (go_at_call 60; refine (HP.out 2 (by decide) _).mono ?_; rintro e w' ⟨rfl, rfl⟩)
      go_ret2
      rw [part2]
      exact ⟨rfl, rfl⟩
    by_cases g3 : n / 16777216 = x / 16777216
    · rw [p3 g2 g3]
      have z0 := fz _ (fun h => g0 (x1.1 h))
      have z1 := fz _ (fun h => g1 (x2.1 h))
      have z2 := fz _ (fun h => g2 (x3.1 h))
      have z3 := tz _ (x4.2 g3)
      clear x1 x2 x3 x4 p0 p1 p2 p3 p4 fz tz g0 g1 g2 g3
      go_enter Try.func59, Try.ntmps59
      go_wp2_with (
        first
        | (go_at_call 26; refine (HC.out _).mono ?_; rintro e w' ⟨rfl, rfl⟩)
        | (go_at_call 26; refine (HD.out _).mono ?_; rintro e w' ⟨rfl, rfl⟩))
      refine wp_loop_rounds 4 ?_
      rw [rounds_succ]
      go_wp2
      rw [rounds_succ]
      go_wp2
      rw [rounds_succ]
      go_wp2
      rw [rounds_succ]
      go_wp2_with (go_at_call 60; refine (HP.out 3 (by decide) _).mono ?_; rintro e w' ⟨rfl, rfl⟩)
      go_ret2
      rw [part3]
      exact ⟨rfl, rfl⟩
    rw [p4 g3]
    have z0 := fz _ (fun h => g0 (x1.1 h))
    have z1 := fz _ (fun h => g1 (x2.1 h))
    have z2 := fz _ (fun h => g2 (x3.1 h))
    have z3 := fz _ (fun h => g3 (x4.1 h))
    clear x1 x2 x3 x4 p0 p1 p2 p3 p4 fz tz g0 g1 g2 g3
    go_enter Try.func59, Try.ntmps59
    go_wp2_with (
      first
      | (go_at_call 26; refine (HC.out _).mono ?_; rintro e w' ⟨rfl, rfl⟩)
      | (go_at_call 26; refine (HD.out _).mono ?_; rintro e w' ⟨rfl, rfl⟩))
    refine wp_loop_rounds 5 ?_
    rw [rounds_succ]
    go_wp2
    rw [rounds_succ]
    go_wp2
    rw [rounds_succ]
    go_wp2
    rw [rounds_succ]
    go_wp2
    rw [rounds_succ]
    go_wp2
    go_ret2
    exact ⟨rfl, rfl⟩

end Go.Proofs.Ytmkcckkjkfmheaa.Wh

/- Wheel: its state; none, Now, Len, list. -/
set_option linter.unusedVariables false
set_option linter.unusedSimpArgs false
set_option maxRecDepth 100000
namespace Go.Proofs.Ytmkcckkjkfmheaa.Wh
open Go.RowKit Go.Maps Go.Proofs.Ytmkcckkjkfmheaa.Base Go.Proofs.Ytmkcckkjkfmheaa.Rws Go.Proofs.YtmkcckkjkfmheaaW.PrintWords Go.Proofs.YtmkcckkjkfmheaaW.PrintMore
attribute [local go_sem] max2_mx min2_mn max_two min_two max_three min_three max_four min_four

/-- The wheel's own block. -/
def WB (w : World) (g b : Nat) (n last : Int) (vals : Nat → Value) : Prop :=
  ∃ cs, w.heap[g]? = some (.cells cs 89 (0, 0)) ∧ cs.size = 260 ∧ cs[0]? = some (.int .i64 n) ∧ cs[1]? = some (.int .i64 last) ∧ (∀ i, i < 257 → cs[2 + i]? = some (vals i)) ∧ cs[259]? = some (.map (some b))

section
variable {w w' : World} {g b : Nat} {n last : Int} {vals : Nat → Value} {S : Nat → Prop}
theorem WB.now (h : WB w g b n last vals) : w.cell? ⟨g, 0, none⟩ = some (.int .i64 n) := by obtain ⟨cs, h1, _, h2, _⟩ := h; exact cell_at h1 0 h2
theorem WB.lst (h : WB w g b n last vals) : w.cell? ⟨g, 1, none⟩ = some (.int .i64 last) := by obtain ⟨cs, h1, _, _, h2, _⟩ := h; exact cell_at h1 1 h2
theorem WB.val (h : WB w g b n last vals) (i : Nat) (hi : i < 257) : w.cell? ⟨g, 2 + i, none⟩ = some (vals i) := by obtain ⟨cs, h1, _, _, _, h2, _⟩ := h; exact cell_at h1 (2 + i) (h2 i hi)
theorem WB.mapc (h : WB w g b n last vals) : w.cell? ⟨g, 259, none⟩ = some (.map (some b)) := by obtain ⟨cs, h1, _, _, _, _, h2⟩ := h; exact cell_at h1 259 h2
theorem WB.frozen (h : WB w g b n last vals) (k : Nat) : w.frozen? ⟨g, k, none⟩ = false := by obtain ⟨cs, h1, _⟩ := h; exact blk_frozen h1 k
theorem WB.lt (h : WB w g b n last vals) : g < w.heap.size := by obtain ⟨cs, h1, _⟩ := h; exact blk_lt h1
theorem WB.only (h : WB w g b n last vals) (k : Only S w w') (hn : ¬ S g) : WB w' g b n last vals := by obtain ⟨cs, h1, h2⟩ := h; exact ⟨cs, k.blk h1 hn, h2⟩
theorem WB.isBlk (h : WB w g b n last vals) : ∃ cs, w.heap[g]? = some (.cells cs 89 (0, 0)) := by obtain ⟨cs, h1, _⟩ := h; exact ⟨cs, h1⟩

theorem WB.set (h : WB w g b n last vals) (i : Nat) (hi : i < 257) (v : Value) : WB (w.setCell ⟨g, 2 + i, none⟩ v) g b n last (upd vals i v) := by
  obtain ⟨cs, h1, h2, h3, h4, h5, h6⟩ := h
  refine ⟨_, blk_set h1 (2 + i) v, by simp [h2], ?_, ?_, ?_, ?_⟩
  · rw [Array.getElem?_setIfInBounds, if_neg (by omega)]; exact h3
  · rw [Array.getElem?_setIfInBounds]; rw [if_neg (by omega)]; exact h4
  · intro j hj
    rw [Array.getElem?_setIfInBounds]
    by_cases e : j = i
    · subst e
      rw [if_pos rfl, if_pos (by omega), upd_same]
    · rw [if_neg (by omega), upd_other _ _ e]
      exact h5 j hj
  · rw [Array.getElem?_setIfInBounds]; rw [if_neg (by omega)]; exact h6

theorem WB.setNow (h : WB w g b n last vals) (n' : Int) : WB (w.setCell ⟨g, 0, none⟩ (.int .i64 n')) g b n' last vals := by
  obtain ⟨cs, h1, h2, h3, h4, h5, h6⟩ := h
  refine ⟨_, blk_set h1 0 _, by simp [h2], ?_, ?_, ?_, ?_⟩
  · rw [Array.getElem?_setIfInBounds, if_pos rfl, if_pos (by omega)]
  · rw [Array.getElem?_setIfInBounds]; rw [if_neg (by omega)]; exact h4
  · intro j hj
    rw [Array.getElem?_setIfInBounds, if_neg (by omega)]
    exact h5 j hj
  · rw [Array.getElem?_setIfInBounds]; rw [if_neg (by omega)]; exact h6

theorem WB.setLast (h : WB w g b n last vals) (n' : Int) : WB (w.setCell ⟨g, 1, none⟩ (.int .i64 n')) g b n n' vals := by
  obtain ⟨cs, h1, h2, h3, h4, h5, h6⟩ := h
  refine ⟨_, blk_set h1 1 _, by simp [h2], ?_, ?_, ?_, ?_⟩
  · rw [Array.getElem?_setIfInBounds]; rw [if_neg (by omega)]; exact h3
  · rw [Array.getElem?_setIfInBounds, if_pos rfl, if_pos (by omega)]
  · intro j hj
    rw [Array.getElem?_setIfInBounds, if_neg (by omega)]
    exact h5 j hj
  · rw [Array.getElem?_setIfInBounds]; rw [if_neg (by omega)]; exact h6
end

/-- A wheel in the memory: its block, its map, its lists; F: the blocks that are its own. -/
structure WS (w : World) (g b : Nat) (F : Nat → Prop) (n last : Int) (L : List Tm) (vals : Nat → Value) (rows : Nat → List Int) : Prop where
  blk : WB w g b n last vals
  map : TM w b L
  row : ∀ i, i < 257 → Ks w F (vals i) (rows i)
  ap : ∀ i, i < 257 → ∀ j, j < 257 → i ≠ j → ∀ k, (vals i).ownBlock = some k → (vals j).ownBlock ≠ some k
  fg : F g
  fb : F b
  flt : ∀ k, F k → k < w.heap.size

theorem WS.only {w w' : World} {g b : Nat} {F S : Nat → Prop} {n last : Int} {L : List Tm} {vals : Nat → Value} {rows : Nat → List Int} (h : WS w g b F n last L vals rows) (k : Only S w w') (hn : ∀ i, F i → ¬ S i) : WS w' g b F n last L vals rows :=
  ⟨h.blk.only k (hn g h.fg), h.map.only k (hn b h.fb), fun i hi => Row.only (h.row i hi) k (fun q hq => hn q (Row.own (h.row i hi) hq).1), h.ap, h.fg, h.fb, fun i hi => Nat.lt_of_lt_of_le (h.flt i hi) k.size⟩

theorem eql_map (w : World) (b : Nat) : (binOp .eql 85 (.map (some b)) (.map none)).run Try.prog w = .ok (.bool false) w := by
  have h1 : ∀ d, (Op.equalIn (d + 1) 85 (.map (some b)) (.map none)).run Try.prog w = .ok false w := fun d => by simp [Op.equalIn, run_underlying Try.underlying85]
  have h2 : (Op.equal 85 (.map (some b)) (.map none)).run Try.prog w = .ok false w := h1 9999
  simp [binOp, h2]

theorem none_nil (w : World) : Calls Try.prog 43 #[.pointer none] w fun e w' => e = .returned (.bool true) ∧ w = w' := by
  go_enter Try.func43, Try.ntmps43
  go_wp2
  go_ret
  exact ⟨rfl, rfl⟩

theorem none_p {w : World} {g b : Nat} {n last : Int} {vals : Nat → Value} (h : WB w g b n last vals) : Calls Try.prog 43 #[.pointer (some ⟨g, 0, none⟩)] w fun e w' => e = .returned (.bool false) ∧ w = w' := by
  have hc := h.mapc
  have he := eql_map w b
  clear h
  go_enter Try.func43, Try.ntmps43
  go_wp2
  go_ret
  exact ⟨rfl, rfl⟩

/-- The place of a list in the wheel's block. -/
theorem list_p (g : Nat) (t : Tm) (w : World) (hr : (t.lv = 4 ∧ t.sl = 0) ∨ (0 ≤ t.lv ∧ t.lv ≤ 3 ∧ 0 ≤ t.sl ∧ t.sl < 64)) : Calls Try.prog 56 #[.pointer (some ⟨g, 0, none⟩), t.v] w fun e w' => e = .returned (.pointer (some ⟨g, 2 + t.ix, none⟩)) ∧ Only (fun _ => False) w w' := by
  unfold Tm.v Tm.ix ixOf
  obtain ⟨a, h, l, s⟩ := t
  simp only at hr ⊢
  by_cases h4 : l = 4
  · subst h4
    rw [if_pos rfl]
    have y2 := box_cell w #[.int .i64 a, .int .i64 h, .int .i64 4, .int .i64 s] 92 2 rfl
    clear hr
    go_enter Try.func56, Try.ntmps56
    go_wp2
    go_ret
    exact ⟨rfl, (Only.refl _ w).alloc _⟩
  · rw [if_neg h4]
    have hd : decide (4 ≤ l) = false := decide_eq_false (by omega)
    have h0 : 0 ≤ l := by omega
    have h1 : l < 4 := by omega
    have h2 : 0 ≤ s := by omega
    have h3 : s < 64 := by omega
    have y2 := box_cell w #[.int .i64 a, .int .i64 h, .int .i64 l, .int .i64 s] 92 2 rfl
    have y3 := box_cell w #[.int .i64 a, .int .i64 h, .int .i64 l, .int .i64 s] 92 3 rfl
    go_enter Try.func56, Try.ntmps56
    go_wp2
    go_quiet (fail)
    go_wp2
    go_ret
    refine ⟨?_, ((Only.refl _ w).alloc _).drewN _⟩
    rw [show 2 + (64 * l + s).toNat = 2 + l.toNat * 64 + s.toNat by omega]
    rfl

end Go.Proofs.Ytmkcckkjkfmheaa.Wh

/- Wheel: Now, Len. -/
set_option linter.unusedVariables false
set_option linter.unusedSimpArgs false
set_option maxRecDepth 100000
namespace Go.Proofs.Ytmkcckkjkfmheaa.Wh
open Go.RowKit Go.Maps Go.Proofs.Ytmkcckkjkfmheaa.Base Go.Proofs.Ytmkcckkjkfmheaa.Rws Go.Proofs.YtmkcckkjkfmheaaW.PrintWords Go.Proofs.YtmkcckkjkfmheaaW.PrintMore
attribute [local go_sem] max2_mx min2_mn max_two min_two max_three min_three max_four min_four

end Go.Proofs.Ytmkcckkjkfmheaa.Wh

/- Wheel: put. -/
set_option linter.unusedVariables false
set_option linter.unusedSimpArgs false
set_option maxRecDepth 100000
namespace Go.Proofs.Ytmkcckkjkfmheaa.Wh
open Go.RowKit Go.Maps Go.Proofs.Ytmkcckkjkfmheaa.Base Go.Proofs.Ytmkcckkjkfmheaa.Rws Go.Proofs.YtmkcckkjkfmheaaW.PrintWords Go.Proofs.YtmkcckkjkfmheaaW.PrintMore
attribute [local go_sem] max2_mx min2_mn max_two min_two max_three min_three max_four min_four

/-- What a call leaves of the wheel: its own blocks, and new ones. -/
def PostW (w : World) (g b : Nat) (F : Nat → Prop) (n last : Int) (L : List Tm) (rows : Nat → List Int) (w' : World) : Prop :=
  ∃ F' vals', WS w' g b F' n last L vals' rows ∧ (∀ k, F' k → F k ∨ w.heap.size ≤ k) ∧ Only F w w'

theorem only_new {w w1 : World} {S : Nat → Prop} (h : Only (fun k => w.heap.size ≤ k) w w1) : Only S w w1 := ⟨h.os, h.tape, h.output, h.size, fun i hi _ => h.block i hi (by omega)⟩

theorem place_four {n x : Int} (h : (place n x).1 = 4) : (place n x).2 = 0 := by
  unfold place at h ⊢
  by_cases h1 : x ≤ n
  · rw [if_pos h1] at h; simp at h
  rw [if_neg h1] at h ⊢
  by_cases h2 : n / 64 = x / 64
  · rw [if_pos h2] at h; simp at h
  rw [if_neg h2] at h ⊢
  by_cases h3 : n / 4096 = x / 4096
  · rw [if_pos h3] at h; simp at h
  rw [if_neg h3] at h ⊢
  by_cases h4 : n / 262144 = x / 262144
  · rw [if_pos h4] at h; simp at h
  rw [if_neg h4] at h ⊢
  by_cases h5 : n / 16777216 = x / 16777216
  · rw [if_pos h5] at h; simp at h
  rw [if_neg h5]

set_option maxHeartbeats 4000000 in
set_option maxRecDepth 100000 in
theorem put_p {w : World} {g b : Nat} {F : Nat → Prop} {n last : Int} {L : List Tm} {vals : Nat → Value} {rows : Nat → List Int} (hs : WS w g b F n last L vals rows) (t : Tm) (hn : cl n = n) (ht : cl t.at_ = t.at_) (hh : (Lit.int .i64 t.h).wf = true) (hl : ∀ i, (rows i).length ≤ 10000) (hL : L.length ≤ 10000) :
    Calls Try.prog 44 #[.pointer (some ⟨g, 0, none⟩), t.v] w fun e w' => e = .returned (.tuple #[]) ∧ PostW w g b F n last (putL n L t) (putRows n rows t) w' := by
  obtain ⟨a, h, l, s⟩ := t
  unfold Tm.v
  simp only at ht hh ⊢
  have HS := Lib.hid hs
  have HP : Hid (∀ w, Calls Try.prog 59 #[.int .i64 n, .int .i64 a] w fun e w' => e = .returned (.tuple #[.int .i64 (place n a).1, .int .i64 (place n a).2]) ∧ w' = w) := Lib.hid (fun w => by
    have h := place_p n a w
    rw [hn, ht] at h
    exact h.mono fun _ _ h => ⟨h.1, h.2.symm⟩)
  have HPB : Hid (((place n a).1 = 4 ∧ (place n a).2 = 0) ∨ (0 ≤ (place n a).1 ∧ (place n a).1 ≤ 3 ∧ 0 ≤ (place n a).2 ∧ (place n a).2 < 64)) := by
    have h1 := place_bd n a
    by_cases h4 : (place n a).1 = 4
    · exact Lib.hid (.inl ⟨h4, place_four h4⟩)
    · exact Lib.hid (.inr (by omega))
  have HIX := Lib.hid (ix_lt n a)
  obtain ⟨l1, hl1⟩ : ∃ x, x = (place n a).1 := ⟨_, rfl⟩
  obtain ⟨s1, hs1⟩ : ∃ x, x = (place n a).2 := ⟨_, rfl⟩
  rw [← hl1, ← hs1] at HP HPB HIX
  have HL1 := Lib.hid hl1
  have HS1 := Lib.hid hs1
  have HH := Lib.hid hh
  have HLL := Lib.hid hl
  have HLL2 := Lib.hid hL
  obtain ⟨w0, hw0⟩ : ∃ w0, w0 = w.alloc (.cells #[.int .i64 a, .int .i64 h, .int .i64 l, .int .i64 s] 92) := ⟨_, rfl⟩
  have hO : Only (fun _ => False) w w0 := by rw [hw0]; exact (Only.refl _ w).alloc _
  obtain ⟨B, hB⟩ : ∃ B, B = w.heap.size := ⟨_, rfl⟩
  have hblk : w0.heap[B]? = some (.cells #[.int .i64 a, .int .i64 h, .int .i64 l, .int .i64 s] 92 (0, 0)) := by rw [hw0, hB]; exact heap_alloc_new w _
  have hs0 := hs.only hO (fun _ _ h => h)
  have z0 := hs0.blk.now
  have y0 : w0.cell? ⟨B, 0, none⟩ = some (.int .i64 a) := cell_at hblk 0 rfl
  have y2 : w0.cell? ⟨B, 2, none⟩ = some (.int .i64 l) := cell_at hblk 2 rfl
  have y3 : w0.cell? ⟨B, 3, none⟩ = some (.int .i64 s) := cell_at hblk 3 rfl
  have f2 : w0.frozen? ⟨B, 2, none⟩ = false := blk_frozen hblk 2
  have f3 : w0.frozen? ⟨B, 3, none⟩ = false := blk_frozen hblk 3
  have HBK := Lib.hid hblk
  have HO := Lib.hid hO
  have H0 := Lib.hid hs0
  clear hs hn ht hl hL hh hl1 hs1 hblk hO hs0
  go_enter Try.func44, Try.ntmps44
  go_wp2
  rw [← hw0, ← hB]
  clear hw0
  have HB := Lib.hid hB
  clear hB
  obtain ⟨W1, hW1⟩ : ∃ W1, W1 = w0.setCell ⟨B, 2, none⟩ (.int .i64 l1) := ⟨_, rfl⟩
  obtain ⟨W2, hW2⟩ : ∃ W2, W2 = W1.setCell ⟨B, 3, none⟩ (.int .i64 s1) := ⟨_, rfl⟩
  have hb1 : W1.heap[B]? = some (.cells #[.int .i64 a, .int .i64 h, .int .i64 l1, .int .i64 s] 92 (0, 0)) := by rw [hW1]; exact blk_set HBK.out 2 _
  have hb2 : W2.heap[B]? = some (.cells #[.int .i64 a, .int .i64 h, .int .i64 l1, .int .i64 s1] 92 (0, 0)) := by rw [hW2]; exact blk_set hb1 3 _
  have hnB : ∀ i, F i → ¬ i = B := fun i hi e => by have := HS.out.flt i hi; rw [e, HB.out] at this; omega
  have ho1 : Only (fun k => k = B) w0 W1 := by rw [hW1]; exact (Only.refl (fun k => k = B) w0).setCell (p := ⟨B, 2, none⟩) (.inl rfl) _
  have ho2 : Only (fun k => k = B) w0 W2 := by rw [hW2]; exact ho1.setCell (p := ⟨B, 3, none⟩) (.inl rfl) _
  have h1s := H0.out.only ho1 hnB
  have h2s := H0.out.only ho2 hnB
  have z1 := h1s.blk.now
  have z2 := h2s.blk.now
  have y1 : W1.cell? ⟨B, 0, none⟩ = some (.int .i64 a) := cell_at hb1 0 rfl
  have y20 : W2.cell? ⟨B, 0, none⟩ = some (.int .i64 a) := cell_at hb2 0 rfl
  have u3 : W1.cell? ⟨B, 3, none⟩ = some (.int .i64 s) := cell_at hb1 3 rfl
  have v3 : W1.frozen? ⟨B, 3, none⟩ = false := blk_frozen hb1 3
  have H2 := Lib.hid h2s
  have HK2 := Lib.hid hb2
  have HO2 : Hid (Only (fun k => w.heap.size ≤ k) w W2) := Lib.hid ((HO.out.mono (fun _ h => h.elim)).trans (ho2.mono (fun k hk => by rw [hk, HB.out]; exact Nat.le_refl _)))
  rw [hW1] at z1 y1 u3 v3 hW2
  rw [hW2] at z2 y20
  clear hb1 hb2 hnB ho1 ho2 h1s h2s hW1
  go_region_held3 (fun w' => w'.cell? ⟨g, 0, none⟩ = some (.int .i64 n) ∧ w'.cell? ⟨B, 0, none⟩ = some (.int .i64 a)) (first | exact ⟨z0, y0⟩ | exact ⟨z1, y1⟩ | exact ⟨z2, y20⟩) (first | (go_at_call 59; refine (HP.out _).mono ?_; rintro e w' ⟨rfl, rfl⟩))
  rw [← hW2]
  clear z0 z1 z2 y0 y1 y2 y3 f2 f3 u3 v3 y20 hW2
  obtain ⟨w3, hw3⟩ : ∃ w3, w3 = W2.drew := ⟨_, rfl⟩
  have H3 : Hid (WS w3 g b F n last L vals rows) := by rw [hw3]; exact Lib.hid (H2.out.only ((Only.refl (fun _ => False) W2).drew) (fun _ _ h => h))
  have HK3 : Hid (w3.heap[B]? = some (.cells #[.int .i64 a, .int .i64 h, .int .i64 l1, .int .i64 s1] 92 (0, 0))) := by rw [hw3]; exact HK2
  have HO3 : Hid (Only (fun k => w.heap.size ≤ k) w w3) := by rw [hw3]; exact Lib.hid HO2.out.drew
  rw [← hw3]
  clear hw3 H2 HK2 HO2
  have c0 := cell_at HK3.out 0 rfl
  have c1 := cell_at HK3.out 1 rfl
  have c2 := cell_at HK3.out 2 rfl
  have c3 := cell_at HK3.out 3 rfl
  have HLI := Lib.hid (list_p g ⟨a, h, l1, s1⟩ w3 HPB.out)
  obtain ⟨X, hX⟩ : ∃ X, X = (⟨a, h, l1, s1⟩ : Tm).ix := ⟨_, rfl⟩
  rw [← hX] at HLI
  have HX := Lib.hid hX
  have HXL : Hid (X < 257) := by rw [hX]; exact HIX
  clear hX
  go_wp2_with (go_at_call 56; refine HLI.out.mono ?_; rintro e w5 ⟨rfl, o5⟩; have O5 := Lib.hid o5; clear o5)
  have HS5 := Lib.hid (H3.out.only O5.out (fun _ _ h => h))
  have HK5 := Lib.hid (O5.out.blk HK3.out (fun h => h))
  have HO5 := Lib.hid (HO3.out.trans (O5.out.mono (fun _ h => h.elim)))
  clear c0 c1 c2 c3 H3 HK3 HO3 O5 HLI
  have x5 := HS5.out.blk.val X HXL.out
  have d1 := cell_at HK5.out 1 rfl
  obtain ⟨V, hV⟩ : ∃ V, V = vals X := ⟨_, rfl⟩
  have HV := Lib.hid hV
  rw [← hV] at x5
  have hKs : Ks w5 (fun k => V.ownBlock = some k ∨ w5.heap.size ≤ k) V (rows X) := by
    have h1 := HS5.out.row X HXL.out
    rw [← hV] at h1
    exact Row.to h1 (fun k hk => .inl hk)
  have HKS := Lib.hid hKs
  obtain ⟨v6, w6, hr6, k6, o6⟩ := Ks.app (W := w5.drew) (P := fun k => V.ownBlock = some k ∨ w5.heap.size ≤ k) (by exact hKs) (fun k hk => .inr hk) (Nat.le_trans (HLL.out X) (by decide)) h 42
  obtain ⟨A6, c6, rfl, _⟩ := k6.form
  obtain ⟨D6, hD6⟩ : ∃ D6, D6 = (rows X ++ [h]).length := ⟨_, rfl⟩
  rw [← hD6] at hr6 k6
  have HD6 := Lib.hid hD6
  clear hD6
  have hr6' : (Builtin.append_ #[42, 42] 42 #[V, .slice (some ⟨w5.heap.size, 0, none⟩) 1 1]).run Try.prog (w5.alloc (.cells #[.int .i64 h] 3)).drew = .ok (.slice A6 D6 c6) w6 := hr6
  have oa : Only (fun _ => False) w5 (w5.alloc (.cells #[.int .i64 h] 3)).drew := ((Only.refl _ w5).alloc _).drew
  have hsa := HS5.out.only oa (fun _ _ h => h)
  have xa := hsa.blk.val X HXL.out
  rw [← hV] at xa
  have da := cell_at (oa.blk HK5.out (fun h => h)) 1 rfl
  have hng : ¬ V.ownBlock = some g := by
    obtain ⟨cs, hcs⟩ := HS5.out.blk.isBlk
    exact Ks.ne hKs hcs
  have hb6 : WB w6 g b n last vals := HS5.out.blk.only (w' := w6) (S := fun k => V.ownBlock = some k) (by exact (Only.refl _ w5).drew.trans o6) hng
  have x6 := hb6.val X HXL.out
  rw [← hV] at x6
  have f6 := hb6.frozen (2 + X)
  have HB6 := Lib.hid hb6
  have K6 := Lib.hid k6
  have O6 : Hid (Only (fun k => V.ownBlock = some k) w5 w6) := Lib.hid ((Only.refl _ w5).drew.trans o6)
  clear hKs hr6 oa hsa hng hb6 k6 o6 hV
  obtain ⟨w7, hw7⟩ : ∃ w7, w7 = w6.setCell ⟨g, 2 + X, none⟩ (.slice A6 D6 c6) := ⟨_, rfl⟩
  have HFX : Hid (F g ∧ F b) := Lib.hid ⟨HS.out.fg, HS.out.fb⟩
  have og : Only (fun k => k = g) w6 w7 := by rw [hw7]; exact (Only.refl (fun k => k = g) w6).setCell (p := ⟨g, 2 + X, none⟩) (.inl rfl) _
  have hVF : ∀ k, V.ownBlock = some k → F k := fun k hk => by
    rw [HV.out] at hk
    exact (Row.own (HS5.out.row X HXL.out) hk).1
  have ofw : Only F w w7 := ((only_new HO5.out).then_ O6.out (fun k hk => .inl (hVF k hk))).then_ og (fun k hk => .inl (by rw [hk]; exact HFX.out.1))
  obtain ⟨cs6, hcs6⟩ := HB6.out.isBlk
  obtain ⟨esm, clm, hmb⟩ := HS5.out.map.isMap
  have hgb : g ≠ b := by obtain ⟨cs5, hcs5⟩ := HS5.out.blk.isBlk; exact HS5.out.map.ne hcs5
  have hb7 : WB w7 g b n last (upd vals X (.slice A6 D6 c6)) := by rw [hw7]; exact HB6.out.set X HXL.out _
  have hVb : V.ownBlock ≠ some b := by have h1 := HS5.out.row X HXL.out; rw [← HV.out] at h1; exact Row.neMap h1 hmb
  have hm7 : TM w7 b L := (HS5.out.map.only O6.out (fun h => hVb h)).only og (fun h => hgb h.symm)
  have hk7 : w7.heap[B]? = some (.cells #[.int .i64 a, .int .i64 h, .int .i64 l1, .int .i64 s1] 92 (0, 0)) := by
    refine og.blk (O6.out.blk HK5.out (fun h1 => ?_)) (fun e => ?_)
    · have h2 := HKS.out
      exact Ks.ne h2 HK5.out (by decide) h1
    · rw [← e] at hcs6
      have := O6.out.blk HK5.out (fun h1 => Ks.ne HKS.out HK5.out (by decide) h1)
      rw [this] at hcs6
      cases hcs6
  have hsz5 : w.heap.size ≤ w5.heap.size := HO5.out.size
  have hsz67 : w6.heap.size ≤ w7.heap.size := og.size
  have hsz56 : w5.heap.size ≤ w6.heap.size := O6.out.size
  have hr7 : ∀ i, i < 257 → Ks w7 (fun k => F k ∨ (w.heap.size ≤ k ∧ k < w7.heap.size)) (upd vals X (.slice A6 D6 c6) i) (upd rows X (rows X ++ [h]) i) := fun i hi => by
    by_cases e : i = X
    · subst e
      rw [upd_same, upd_same]
      have h1 := Row.only K6.out og (fun q hq e => Ks.ne K6.out hcs6 (by decide) (by rw [hq, e]))
      refine Row.to (Q := fun k => F k ∨ (w.heap.size ≤ k ∧ k < w7.heap.size)) h1 (fun k hk => ?_)
      have h2 := Row.own h1 hk
      rcases h2.1 with h3 | h3
      · exact .inl (hVF k h3)
      · exact .inr ⟨Nat.le_trans hsz5 h3, h2.2⟩
    · rw [upd_other _ _ e, upd_other _ _ e]
      have h0 := HS5.out.row i hi
      have h1 := Row.only (Row.only h0 O6.out (fun q hq h3 => HS5.out.ap i hi X HXL.out e q hq (by rw [← HV.out]; exact h3))) og (fun q hq e2 => by
        obtain ⟨cs5, hcs5⟩ := HS5.out.blk.isBlk
        exact Ks.ne h0 hcs5 (by decide) (by rw [hq, e2]))
      exact Row.to (Q := fun k => F k ∨ (w.heap.size ≤ k ∧ k < w7.heap.size)) h1 (fun k hk => .inl (Row.own h0 hk).1)
  have hap7 : ∀ i, i < 257 → ∀ j, j < 257 → i ≠ j → ∀ k, (upd vals X (.slice A6 D6 c6) i).ownBlock = some k → (upd vals X (.slice A6 D6 c6) j).ownBlock ≠ some k := by
    have hx : ∀ j, j < 257 → j ≠ X → ∀ k, (Value.slice A6 D6 c6).ownBlock = some k → (vals j).ownBlock ≠ some k := fun j hj hjx k hk hk2 => by
      rcases (Row.own K6.out hk).1 with h3 | h3
      · exact HS5.out.ap j hj X HXL.out hjx k hk2 (by rw [← HV.out]; exact h3)
      · have h4 := (Row.own (HS5.out.row j hj) hk2).2
        omega
    intro i hi j hj hij k hk hk2
    by_cases e : i = X
    · subst e
      rw [upd_same] at hk
      rw [upd_other _ _ (fun e => hij e.symm)] at hk2
      exact hx j hj (fun e => hij e.symm) k hk hk2
    · rw [upd_other _ _ e] at hk
      by_cases e2 : j = X
      · subst e2
        rw [upd_same] at hk2
        exact hx i hi e k hk2 hk
      · rw [upd_other _ _ e2] at hk2
        exact HS5.out.ap i hi j hj hij k hk hk2
  have hs7 : WS w7 g b (fun k => F k ∨ (w.heap.size ≤ k ∧ k < w7.heap.size)) n last L (upd vals X (.slice A6 D6 c6)) (upd rows X (rows X ++ [h])) :=
    ⟨hb7, hm7, hr7, hap7, .inl HFX.out.1, .inl HFX.out.2, fun k hk => hk.elim (fun h1 => Nat.lt_of_lt_of_le (HS5.out.flt k h1) (Nat.le_trans hsz56 hsz67)) (fun h1 => h1.2)⟩
  have HS7 := Lib.hid hs7
  have HK7 := Lib.hid hk7
  have HOF := Lib.hid ofw
  clear og hVF ofw hcs6 hmb hgb hb7 hVb hm7 hk7 hsz5 hsz67 hsz56 hr7 hap7 hs7
  have HW7 := Lib.hid hw7
  clear hw7
  have m7 := HS7.out.blk.mapc
  have e0 := cell_at HK7.out 0 rfl
  have e1 := cell_at HK7.out 1 rfl
  have e2 := cell_at HK7.out 2 rfl
  have e3 := cell_at HK7.out 3 rfl
  obtain ⟨D, hown, hhd⟩ := HS7.out.map
  have HHD := Lib.hid hhd
  have hownd : w7.drew.ownsMap Try.prog 3 rdT b L.length D := hown
  have hnm : L.length < maxLen := Nat.lt_of_le_of_lt HLL2.out (by decide)
  have hpl : rdT (.agg #[.int .i64 a, .int .i64 h, .int .i64 l1, .int .i64 s1]) = some (datT ⟨a, h, l1, s1⟩, []) := rfl
  have hkey : keyOf Try.prog 3 (.int .i64 h) = some (.int .i64 h) := keyI HH.out
  clear hown hhd
  go_region_law ((rw [if_pos (by rfl)]; refine Go.Lib.wp_append_run_sl _ (.tmp 23) (.tmp 26) 42 rfl _ _ rfl rfl hr6' ?_))
  all_goals
    rw [← HW7.out]
    clear x5 d1 hr6' xa da x6 f6
    go_upto_region 4 with fail
    go_still_tail 7, (by kernel_rfl)
    repeat still_step
    change wpList _ _ _ _ _ w7.drew
    go_wp2_with (at_mapUpdate; go_loud (refine wpList_mapUpdate_own _ rfl _ _ _ 85 rfl 3 92 law Try.underlying85 _ b L.length D rfl hownd hnm _ _ (.int .i64 h) rfl rfl hkey _ [] hpl ?_; intro w8 hown8 hgrow8; have HO8 := Lib.hid ((Only.refl (fun k => k = b) w7.drew).grown hgrow8 (fun k hk => .inl (by simpa using hk.symm))); have HW8 := Lib.hid hown8; clear hown8 hgrow8))
    go_end0
    refine ⟨rfl, _, _, ⟨HS7.out.blk.only (w' := w8) (S := fun k => k = b) (by exact (Only.refl _ w7).drew.trans HO8.out) ?_, ?_, fun i hi => ?_, HS7.out.ap, HS7.out.fg, HS7.out.fb, fun k hk => Nat.lt_of_lt_of_le (HS7.out.flt k hk) HO8.out.size⟩, fun k hk => hk.elim .inl (fun h1 => .inr h1.1), HOF.out.then_ (S2 := fun k => k = b) (by exact (Only.refl _ w7).drew.trans HO8.out) (fun k hk => .inl (by rw [hk]; exact HFX.out.2))⟩
    · obtain ⟨cs7, hcs7⟩ := HS7.out.blk.isBlk
      exact HS7.out.map.ne hcs7
    · have hp : putL n L ⟨a, h, l, s⟩ = L.filter (fun x => decide (x.h ≠ h)) ++ [⟨a, h, l1, s1⟩] := by
        unfold putL laidAt
        simp only [← HL1.out, ← HS1.out]
      rw [hp]
      exact tight HW8.out (HHD.out.put ⟨a, h, l1, s1⟩ HH.out)
    · have hp : putRows n rows ⟨a, h, l, s⟩ = upd rows X (rows X ++ [h]) := by
        unfold putRows laidAt
        simp only [← HL1.out, ← HS1.out, ← HX.out]
      rw [hp]
      obtain ⟨esm, clm, hmb⟩ := HS7.out.map.isMap
      exact Row.only (HS7.out.row i hi) (w' := w8) (S := fun k => k = b) (by exact (Only.refl _ w7).drew.trans HO8.out) (fun q hq e => Row.neMap (HS7.out.row i hi) hmb (by rw [hq, e]))

end Go.Proofs.Ytmkcckkjkfmheaa.Wh

/- Wheel: due. -/
set_option linter.unusedVariables false
set_option linter.unusedSimpArgs false
set_option maxRecDepth 100000
namespace Go.Proofs.Ytmkcckkjkfmheaa.Wh
open Go.RowKit Go.Maps Go.Proofs.Ytmkcckkjkfmheaa.Base Go.Proofs.Ytmkcckkjkfmheaa.Rws Go.Proofs.YtmkcckkjkfmheaaW.PrintWords Go.Proofs.YtmkcckkjkfmheaaW.PrintMore
attribute [local go_sem] max2_mx min2_mn max_two min_two max_three min_three max_four min_four

theorem Ts.only {w w' : World} {P S : Nat → Prop} {v : Value} {L : List Tm} (h : Ts w P v L) (k : Only S w w') (hn : ∀ g, v.ownBlock = some g → ¬ S g) : Ts w' P v L := Row.only h k hn
theorem Ts.neMap {w : World} {P : Nat → Prop} {v : Value} {L : List Tm} (h : Ts w P v L) {g : Nat} {es : Array MapEntry} {c : Nat} (hg : w.heap[g]? = some (.map es c)) : v.ownBlock ≠ some g := Row.neMap h hg

/-- What due takes off: the timers of the list, and what is left. -/
theorem takes_step {L : List Tm} {R : List Int} {j : Nat} {h : Int} (hnd : (L.map Tm.h).Nodup) (hR : R.Nodup) (hj : R[j]? = some h) {t : Tm} (ht : t ∈ L) (hh : t.h = h) :
    (L.filter (fun x => decide (x.h ∉ R.take j))).filter (fun x => decide (x.h ≠ h)) = L.filter (fun x => decide (x.h ∉ R.take (j + 1))) ∧ t ∈ L.filter (fun x => decide (x.h ∉ R.take j)) := by
  have htk : R.take (j + 1) = R.take j ++ [h] := by rw [List.take_add_one, hj]; rfl
  constructor
  · rw [List.filter_filter]
    refine List.filter_congr fun x hx => ?_
    rw [htk]
    simp [and_comm]
  · rw [List.mem_filter]
    refine ⟨ht, decide_eq_true ?_⟩
    rw [hh]
    intro hm
    obtain ⟨i, hi, he⟩ := List.getElem_of_mem hm
    rw [List.length_take] at hi
    rw [List.getElem_take] at he
    obtain ⟨hj', hje⟩ := List.getElem?_eq_some_iff.1 hj
    have := (List.nodup_iff_pairwise_ne.1 hR)
    rw [List.pairwise_iff_getElem] at this
    exact this i j (by omega) hj' (by omega) (by rw [he, hje])

theorem J.outs {n : Int} {L : List Tm} {rows : Nat → List Int} (j : J n L rows []) {outs : List Tm} (h1 : outs.map Tm.h = rows (n % 64).toNat) (h2 : ∀ t ∈ outs, t ∈ L) : outs.Perm (L.filter (fun t => decide (t.at_ ≤ n))) ∧ L.filter (fun x => decide (x.h ∉ rows (n % 64).toNat)) = L.filter (fun t => decide (n < t.at_)) := by
  have hd := (j.due).1
  have hin : ∀ t ∈ L, t.h ∈ rows (n % 64).toNat ↔ t.at_ ≤ n := fun t ht => by
    rw [hd]
    constructor
    · rintro ⟨t', ht', hh, hi⟩
      rw [← j.one ht' ht hh]
      exact hi
    · intro h
      exact ⟨t, ht, rfl, h⟩
  have nd : ∀ {l : List Tm}, (l.map Tm.h).Nodup → l.Nodup := fun {l} h => by
    rw [List.nodup_iff_pairwise_ne] at h ⊢
    rw [List.pairwise_map] at h
    exact h.imp (fun h e => h (by rw [e]))
  constructor
  · rw [List.perm_ext_iff_of_nodup (nd (by rw [h1]; exact j.rnd _)) ((nd j.nd).sublist List.filter_sublist)]
    intro t
    rw [List.mem_filter, decide_eq_true_eq]
    constructor
    · intro ht
      exact ⟨h2 t ht, (hin t (h2 t ht)).1 (by rw [← h1]; exact List.mem_map.2 ⟨t, ht, rfl⟩)⟩
    · rintro ⟨ht, ha⟩
      have := (hin t ht).2 ha
      rw [← h1] at this
      obtain ⟨t', ht', hh⟩ := List.mem_map.1 this
      rw [← j.one (h2 t' ht') ht hh]
      exact ht'
  · refine List.filter_congr fun t ht => ?_
    have := hin t ht
    simp only [decide_not, decide_eq_decide, Bool.not_eq_eq_eq_not]
    by_cases h : t.at_ ≤ n
    · simp [this.2 h, h]
    · have h3 : t.h ∉ rows (n % 64).toNat := fun h4 => h (this.1 h4)
      simp [h3]
      omega

def DuePost (w : World) (g b : Nat) (F : Nat → Prop) (n last : Int) (L : List Tm) (rows : Nat → List Int) (e : Ending) (w' : World) : Prop :=
  ∃ v out vals', e = .returned v ∧ Ts w' (fun k => w.heap.size ≤ k) v out ∧ out.Perm (L.filter (fun t => decide (t.at_ ≤ n))) ∧ WS w' g b F n last (L.filter (fun t => decide (n < t.at_))) vals' (upd rows (n % 64).toNat []) ∧ Only F w w'

set_option maxHeartbeats 4000000 in
set_option maxRecDepth 100000 in
theorem due_p {w : World} {g b : Nat} {F : Nat → Prop} {n last : Int} {L : List Tm} {vals : Nat → Value} {rows : Nat → List Int} (hs : WS w g b F n last L vals rows) (j : J n L rows []) (hn : cl n = n) (hL : ∀ i, (rows i).length ≤ 10000) :
    Calls Try.prog 45 #[.pointer (some ⟨g, 0, none⟩)] w (DuePost w g b F n last L rows) := by
  have HS := Lib.hid hs
  have HJ := Lib.hid j
  obtain ⟨q, hq⟩ : ∃ q, q = n % 64 := ⟨_, rfl⟩
  have HP : Hid (∀ w, Calls Try.prog 60 #[.int .i64 n, .int .i64 0] w fun e w' => e = .returned (.int .i64 q) ∧ w' = w) := Lib.hid (fun w => by
    have h := part_p n 0 (.inl rfl) w
    rw [hn, part0, ← hq] at h
    exact h.mono fun _ _ h => ⟨h.1, h.2.symm⟩)
  have h0 : 0 ≤ q := by omega
  have h1 : q < 64 := by omega
  have HQ := Lib.hid hq
  obtain ⟨i0, hi0⟩ : ∃ i0, i0 = q.toNat := ⟨_, rfl⟩
  have HI := Lib.hid hi0
  have HIL : Hid (i0 < 257) := Lib.hid (by omega)
  have z0 := hs.blk.now
  clear hs j hn hq hi0
  have HLR := Lib.hid hL
  clear hL
  go_enter Try.func45, Try.ntmps45
  go_wp2
  go_quiet ((go_at_call 60; exact Calls.quiet_of_same (HP.out _)))
  obtain ⟨w1, hw1⟩ : ∃ w1, w1 = w.drewN nq := ⟨_, rfl⟩
  have HO1 : Hid (Only (fun _ => False) w w1) := by rw [hw1]; exact Lib.hid ((Only.refl _ w).drewN _)
  have HS1 := Lib.hid (HS.out.only HO1.out (fun _ _ h => h))
  rw [← hw1, ← HI.out]
  clear hw1 z0
  have x1 := HS1.out.blk.val i0 HIL.out
  obtain ⟨R, hR⟩ : ∃ R, R = rows i0 := ⟨_, rfl⟩
  have HR := Lib.hid hR
  have HKV := HS.out.row i0 HIL.out
  rw [← hR] at HKV
  obtain ⟨A, c, hV, _⟩ := HKV.form
  obtain ⟨N, hN⟩ : ∃ N, N = R.length := ⟨_, rfl⟩
  rw [← hN] at hV
  rw [hV] at x1 HKV
  have HN := Lib.hid hN
  have HV := Lib.hid hV
  have HK := Lib.hid HKV
  have HND : Hid (R.Nodup) := by rw [hR]; exact Lib.hid (HJ.out.rnd _)
  have HRL : Hid (N ≤ 10000) := by rw [hN, hR]; exact Lib.hid (HLR.out _)
  have HRM : Hid (∀ h ∈ R, ∃ t ∈ L, t.h = h) := Lib.hid (fun h hm => by
    rw [hR] at hm
    obtain ⟨_, t, ht, hh, _⟩ := (HJ.out.mem _ _).1 hm
    exact ⟨t, ht, hh⟩)
  clear hR HKV hV hN
  go_upto_region 4 with fail
  go_loopw [3, 21, 6] (fun v3 v21 _ wr => ∃ (k : Nat) (outs : List Tm), v21 = .int .i64 (k : Int) ∧ k ≤ N ∧ Hid (Ts wr (fun k => w.heap.size ≤ k) v3 outs) ∧ Hid (outs.map Tm.h = R.take k) ∧ Hid (∀ t ∈ outs, t ∈ L) ∧ Hid (TM wr b (L.filter (fun x => decide (x.h ∉ R.take k)))) ∧ Hid (Only (fun k => k = b) w wr)) (fun _ v21 _ _ => N - (RowKit.intOf v21).toNat)
  case atStart =>
    refine ⟨0, [], rfl, Nat.zero_le _, Lib.hid (Row.nil _ _ _ _), Lib.hid rfl, Lib.hid (by simp), Lib.hid ?_, Lib.hid (HO1.out.mono (fun _ h => h.elim))⟩
    have : L.filter (fun x => decide (x.h ∉ R.take 0)) = L := List.filter_eq_self.2 (by simp)
    rw [this]
    exact HS1.out.map
  case round =>
    obtain ⟨k, outs, rfl, hk, HT, HOH, HOL, HTM, HO⟩ := hrel
    have hgo : k < N ∨ k = N := by omega
    rcases hgo with hlt | rfl
    · have hlt' : (k : Int) < (N : Int) := by omega
      have hNb := HRL.out
      have hkr : k < R.length := by rw [← HN.out]; exact hlt
      have hge : R[k]? = some R[k] := List.getElem?_eq_getElem hkr
      obtain ⟨t, ht, hth⟩ := HRM.out _ (List.getElem_mem hkr)
      obtain ⟨hst, hin⟩ := takes_step HJ.out.nd HND.out hge ht hth
      obtain ⟨h, hh⟩ : ∃ h, h = R[k] := ⟨_, rfl⟩
      rw [← hh] at hge hth hst
      have hlk := HTM.out.look hin
      obtain ⟨a, h', l, s⟩ := t
      simp only at hth
      subst hth
      unfold Tm.v at hlk
      simp only at hlk
      have HST := Lib.hid hst
      have HTL := Lib.hid ht
      have HGE := Lib.hid hge
      obtain ⟨esm, clm, hmb⟩ := HS1.out.map.isMap
      obtain ⟨esw, clw, hmw⟩ := HS.out.map.isMap
      have hKr := Row.only HK.out HO.out (fun q2 hq2 e => Row.neMap HK.out hmw (by rw [hq2, e]))
      rw [← HN.out] at hKr
      obtain ⟨q2, o2, c2, he, hcc⟩ := Row.some_ hKr (by omega)
      injection he with e1 e2 e3
      subst e1 e3
      have hx0 : wr.cell? ⟨q2, o2 + k, none⟩ = some (.int .i64 h') := Row.cell hKr k (by rw [List.getElem?_map, hge]; rfl)
      have hgb : g ≠ b := by obtain ⟨cs5, hcs5⟩ := HS.out.blk.isBlk; exact HS.out.map.ne hcs5
      have hbr : WB wr g b n last vals := HS.out.blk.only HO.out (fun e => hgb e)
      have hm9 := hbr.mapc
      have HBR := Lib.hid hbr
      have HGB := Lib.hid hgb
      obtain ⟨v2, w2, hr2, t2, p2⟩ := Ts.app HT.out (fun k hk => by have := HO.out.size; omega) (by
        have h1 := congrArg List.length HOH.out
        rw [List.length_map, List.length_take] at h1
        have h2 := HRL.out
        omega) ⟨a, h', l, s⟩ 93
      have HR2 := Lib.hid hr2
      have HT2 := Lib.hid t2
      have hTw := HT.out
      have hb2 : WB w2 g b n last vals := hbr.only p2 (fun e => by obtain ⟨cs5, hcs5⟩ := hbr.isBlk; exact Row.ne hTw hcs5 (by decide) e)
      have hm29 := hb2.mapc
      have htm2 : TM w2 b (L.filter (fun x => decide (x.h ∉ R.take k))) := HTM.out.only p2 (fun e => by obtain ⟨es5, cl5, hm5⟩ := HTM.out.isMap; exact Row.neMap hTw hm5 e)
      have HO2 : Hid (Only (fun k => k = b) w w2) := Lib.hid (HO.out.then_ p2 (fun k hk => .inr (Row.own hTw hk).1))
      obtain ⟨D, hown, hhd⟩ := htm2
      have HHD := Lib.hid hhd
      have HKE := Lib.hid (keyI (hhd.wf _ hin))
      clear hst ht hge hmb hmw hKr hcc hgb hbr hr2 t2 p2 hTw hb2 hhd hin hh
      go_upto_region 7 with (
        first
        | ((with_reducible refine gate_builtin (b := .append) (xs := #[.tmp 25, .tmp 32]) rfl ?_); at_builtin; go_loud (refine Go.Lib.wpList_append_run_sl _ rfl (.tmp 25) (.tmp 32) 93 rfl _ _ rfl rfl HR2.out ?_)))
      go_wp2_with (at_delete; go_loud (refine wpList_delete_own _ rfl _ _ 85 3 rfl 92 law Try.underlying85 _ b _ D rfl hown _ (.int .i64 h') rfl HKE.out ?_; intro w3 hown3 hturn; have HT3 := Lib.hid hown3; have HU3 := Lib.hid hturn; clear hown3 hturn))
      go_roundw
      case rel =>
        obtain ⟨es5, cl5, hm5, _⟩ := hown
        have o3 : Only (fun k => k = b) w2 w3 := (Only.refl (fun k => k = b) w2).grown HU3.out.grown (fun k hk => .inl (by simpa using hk.symm))
        refine ⟨k + 1, outs ++ [⟨a, h', l, s⟩], by go_num, by omega, Lib.hid (Ts.only HT2.out o3 (fun q hq e => Ts.neMap HT2.out hm5 (by rw [hq, e]))), Lib.hid ?_, Lib.hid ?_, Lib.hid ?_, Lib.hid (HO2.out.trans o3)⟩
        · rw [List.map_append, HOH.out, List.take_add_one, HGE.out]; rfl
        · intro t ht
          rcases List.mem_append.1 ht with h1 | h1
          · exact HOL.out t h1
          · rw [List.mem_singleton.1 h1]; exact HTL.out
        · rw [← HST.out]
          exact tight HT3.out (HHD.out.del h' (HHD.out.wf ⟨a, h', l, s⟩ (takes_step HJ.out.nd HND.out HGE.out HTL.out rfl).2))
      case measure => simp [RowKit.intOf]; omega
    · have hge : ¬ (k : Int) < k := by omega
      have hbr : WB wr g b n last vals := HS.out.blk.only HO.out (fun e => by obtain ⟨cs5, hcs5⟩ := HS.out.blk.isBlk; exact HS.out.map.ne hcs5 e)
      have hx5 := hbr.val i0 HIL.out
      have hf5 := hbr.frozen (2 + i0)
      have HBR := Lib.hid hbr
      have hvi : vals i0 = .slice A k c := HV.out
      rw [hvi] at hx5
      have HVI := Lib.hid hvi
      clear hbr x1 hvi
      have htk : R.take k = rows i0 := by rw [HN.out, List.take_length, HR.out]
      obtain ⟨hp, hfl⟩ := HJ.out.outs (outs := outs) (by rw [← HQ.out, ← HI.out, ← htk]; exact HOH.out) HOL.out
      have HPE := Lib.hid hp
      rw [← HQ.out, ← HI.out, ← htk] at hfl
      have HTF : Hid (TM wr b (L.filter (fun t => decide (n < t.at_)))) := by rw [← hfl]; exact HTM
      clear hp hfl htk
      go_wp2
      go_ret
      have hs5 : Only (fun k => k = g) wr (wr.setCell ⟨g, 2 + i0, none⟩ (.slice none 0 0)) := (Only.refl (fun k => k = g) wr).setCell (p := ⟨g, 2 + i0, none⟩) (.inl rfl) _
      have hof : Only F w wr := HO.out.mono (fun k hk => by rw [hk]; exact HS.out.fb)
      have hgb : g ≠ b := by obtain ⟨cs5, hcs5⟩ := HS.out.blk.isBlk; exact HS.out.map.ne hcs5
      obtain ⟨cs5, hcs5⟩ := HS.out.blk.isBlk
      obtain ⟨es6, cl6, hm6⟩ := HS.out.map.isMap
      obtain ⟨cs7, hcs7⟩ := HBR.out.isBlk
      refine ⟨u3, outs, upd vals i0 (.slice none 0 0), rfl, Ts.only HT.out hs5 (fun q hq e => Row.ne HT.out hcs7 (by decide) (by rw [hq, e])), HPE.out, ⟨HBR.out.set i0 HIL.out _, HTF.out.only hs5 (fun e => hgb e.symm), fun i hi => ?_, fun i hi j hj hij k hk hk2 => ?_, HS.out.fg, HS.out.fb, fun k hk => Nat.lt_of_lt_of_le (HS.out.flt k hk) (Nat.le_trans hof.size hs5.size)⟩, hof.trans (hs5.mono (fun k hk => by rw [hk]; exact HS.out.fg))⟩
      · rw [← HQ.out, ← HI.out]
        by_cases e : i = i0
        · subst e
          rw [upd_same, upd_same]
          exact Row.nil _ _ _ _
        · rw [upd_other _ _ e, upd_other _ _ e]
          have h0 := HS.out.row i hi
          exact Row.only (Row.only h0 HO.out (fun q hq e => Row.neMap h0 hm6 (by rw [hq, e]))) hs5 (fun q hq e => Ks.ne h0 hcs5 (by decide) (by rw [hq, e]))
      · by_cases e : i = i0
        · subst e
          rw [upd_same] at hk
          simp [Value.ownBlock] at hk
        · rw [upd_other _ _ e] at hk
          by_cases e2 : j = i0
          · subst e2
            rw [upd_same] at hk2
            simp [Value.ownBlock] at hk2
          · rw [upd_other _ _ e2] at hk2
            exact HS.out.ap i hi j hj hij k hk hk2

end Go.Proofs.Ytmkcckkjkfmheaa.Wh

/- Wheel: next. -/
set_option linter.unusedVariables false
set_option linter.unusedSimpArgs false
set_option maxRecDepth 100000
namespace Go.Proofs.Ytmkcckkjkfmheaa.Wh
open Go.RowKit Go.Maps Go.Proofs.Ytmkcckkjkfmheaa.Base Go.Proofs.Ytmkcckkjkfmheaa.Rws Go.Proofs.YtmkcckkjkfmheaaW.PrintWords Go.Proofs.YtmkcckkjkfmheaaW.PrintMore
attribute [local go_sem] max2_mx min2_mn max_two min_two max_three min_three max_four min_four

/-- What next tells. -/
def NextPost (w : World) (g : Nat) (n : Int) (L : List Tm) (rows : Nat → List Int) (e : Ending) (w' : World) : Prop :=
  Only (fun _ => False) w w' ∧ ((L = [] ∧ e = .returned (.tuple #[.int .i64 0, .pointer none, .bool false])) ∨
    ∃ (x : Int) (i : Nat), i < 257 ∧ e = .returned (.tuple #[.int .i64 x, .pointer (some ⟨g, 2 + i, none⟩), .bool true]) ∧ n < x ∧ x ≤ 1125899906842624 ∧ (∀ t ∈ L, x ≤ t.at_) ∧ J x L (upd rows i []) (rows i) ∧ rows i ≠ [] ∧ ∀ t ∈ L, ∀ m : Int, n ≤ m → m < x → place m t.at_ = place n t.at_)

theorem four_cases {k : Nat} (h : k < 4) : (k : Int) = 0 ∨ (k : Int) = 1 ∨ (k : Int) = 2 ∨ (k : Int) = 3 := by omega

theorem ix_low {k s : Nat} (h : k < 4) (hs : s < 64) : ixOf (k : Int) (s : Int) = 64 * k + s ∧ ixOf (k : Int) (s : Int) < 257 := by
  unfold ixOf
  rw [if_neg (by omega)]
  omega

theorem field_at (t : Tm) (w : World) : (Instr.field 92 t.v 0).run Try.prog w = .ok (.int .i64 t.at_) w := by
  kernel_rfl

set_option maxHeartbeats 8000000 in
set_option maxRecDepth 100000 in
theorem next_p {w : World} {g b : Nat} {F : Nat → Prop} {n last : Int} {L : List Tm} {vals : Nat → Value} {rows : Nat → List Int} (hs : WS w g b F n last L vals rows) (j : J n L rows []) (hn : cl n = n) (hf : ∀ t ∈ L, n < t.at_) (hL : ∀ i, (rows i).length ≤ 10000) :
    Calls Try.prog 46 #[.pointer (some ⟨g, 0, none⟩)] w (NextPost w g n L rows) := by
  have HS := Lib.hid hs
  have HJ := Lib.hid j
  have HF := Lib.hid hf
  have HLR := Lib.hid hL
  have HP : Hid (∀ (k : Nat), k < 4 → ∀ w, Calls Try.prog 60 #[.int .i64 n, .int .i64 (k : Int)] w fun e w' => e = .returned (.int .i64 (partI n (k : Int))) ∧ w = w') := Lib.hid (fun k hk w => by
    have h := part_p n (k : Int) (four_cases hk) w
    rw [hn] at h
    exact h)
  have HST : Hid (∀ (k s : Nat), k < 4 → s < 64 → ∀ w, Calls Try.prog 61 #[.int .i64 n, .int .i64 (k : Int), .int .i64 (s : Int)] w fun e w' => e = .returned (.int .i64 (startI n (k : Int) (s : Int))) ∧ Only (fun _ => False) w w') := Lib.hid (fun k s hk hs w => by
    have h := start_p n (k : Int) (s : Int) (four_cases hk) (by omega) (by omega) w
    rw [hn] at h
    exact h)
  clear hs j hn hf hL
  go_enter Try.func46, Try.ntmps46
  go_wp2
  go_loopw [11, 5, 6, 7] (fun v11 _ _ _ wr => ∃ (k : Nat), v11 = .int .i64 (k : Int) ∧ k ≤ 4 ∧ Hid (∀ l' s' : Int, (l' = 0 ∨ l' = 1 ∨ l' = 2 ∨ l' = 3) → partI n l' < s' → s' < 64 → l' < (k : Int) → rows (ixOf l' s') = []) ∧ Hid (Only (fun _ => False) w wr)) (fun v11 _ _ _ _ => 4 - (RowKit.intOf v11).toNat)
  case atStart => exact ⟨0, rfl, by omega, Lib.hid (fun l' s' h _ _ h2 => by omega), Lib.hid (Only.refl _ _)⟩
  case round =>
    obtain ⟨k, rfl, hk, HE, HO⟩ := hrel
    have hgo : k < 4 ∨ k = 4 := by omega
    rcases hgo with hlt | rfl
    · have hlt' : (k : Int) < 4 := by omega
      have HSr := Lib.hid (HS.out.only HO.out (fun _ _ h => h))
      have z0 := HSr.out.blk.now
      obtain ⟨p, hp⟩ : ∃ p : Nat, partI n (k : Int) = (p : Int) := ⟨(partI n (k : Int)).toNat, by have := part_bd n (k : Int); omega⟩
      have hp64 : p < 64 := by have := part_bd n (k : Int); omega
      have HPk : Hid (∀ w, Calls Try.prog 60 #[.int .i64 n, .int .i64 (k : Int)] w fun e w' => e = .returned (.int .i64 (p : Int)) ∧ w = w') := Lib.hid (fun w => by rw [← hp]; exact HP.out k hlt w)
      have HPE := Lib.hid hp
      clear hp
      go_upto_region 5 with (go_at_call 60; refine (HPk.out _).mono ?_; rintro e w' ⟨rfl, rfl⟩)
      clear HSr z0
      go_loopw [6, 7] (fun v6 _ wr => ∃ (s : Nat), v6 = .int .i64 (s : Int) ∧ p < s ∧ s ≤ 64 ∧ Hid (∀ s' : Int, (p : Int) < s' → s' < (s : Int) → rows (ixOf (k : Int) s') = []) ∧ Hid (Only (fun _ => False) w wr)) (fun v6 _ _ => 64 - (RowKit.intOf v6).toNat)
      case atStart => exact ⟨p + 1, by go_num, by omega, by omega, Lib.hid (fun s' h1 h2 => by omega), HO⟩
      case round =>
        obtain ⟨s, rfl, hps, hs64, HE2, HO2⟩ := hrel
        have hgo2 : s < 64 ∨ s = 64 := by omega
        rcases hgo2 with hlt2 | rfl
        · have hlt2' : (s : Int) < 64 := by omega
          have HS2 := Lib.hid (HS.out.only HO2.out (fun _ _ h => h))
          obtain ⟨hix, hixl⟩ := ix_low hlt hlt2
          have hx0 := HS2.out.blk.val (64 * k + s) (by omega)
          have hn0 := HS2.out.blk.now
          obtain ⟨A, c, hV, _⟩ := (HS2.out.row (64 * k + s) (by omega)).form
          rw [hV] at hx0
          have e5 : 2 + (64 * k + s) = 2 + k * 64 + s := by omega
          rw [e5] at hx0
          obtain ⟨N, hN⟩ : ∃ N, N = (rows (64 * k + s)).length := ⟨_, rfl⟩
          rw [← hN] at hx0
          have HN := Lib.hid hN
          clear hN hV e5
          by_cases h0 : N = 0
          · have HZ : Hid (rows (ixOf (k : Int) (s : Int)) = []) := Lib.hid (by rw [hix]; exact List.length_eq_zero_iff.1 (by rw [← HN.out]; exact h0))
            subst h0
            go_wp2
            go_roundw
            case rel => exact ⟨s + 1, by go_num, by omega, by omega, Lib.hid (fun s' h1 h2 => by
              by_cases e : s' = (s : Int)
              · rw [e]; exact HZ.out
              · exact HE2.out s' h1 (by omega)), HO2⟩
            case measure => simp [RowKit.intOf]; omega
          · have hd : decide (0 < N) = true := decide_eq_true (by omega)
            have HNZ : Hid (rows (ixOf (k : Int) (s : Int)) ≠ []) := Lib.hid (fun e => h0 (by rw [HN.out, ← hix, e]; rfl))
            have HSTk := Lib.hid (HST.out k s hlt hlt2)
            have HIX := Lib.hid hix
            have HIXL := Lib.hid hixl
            clear h0 hix hixl
            go_wp2_with (go_at_call 61; refine (HSTk.out _).mono ?_; rintro e w9 ⟨rfl, o9⟩; have O9 := Lib.hid (HO2.out.trans o9); clear o9)
            go_ret3
            have hnx := HJ.out.next HF.out (four_cases hlt) (l := (k : Int)) (s := (s : Int)) (by rw [HPE.out]; omega) (by omega) HNZ.out (fun l' s' hl hp hs hlex => by
              rcases hlex with h | ⟨h1, h2⟩
              · exact HE.out l' s' hl hp hs h
              · rw [h1] at hp ⊢
                rw [HPE.out] at hp
                exact HE2.out s' hp h2)
            refine ⟨O9.out, .inr ⟨startI n (k : Int) (s : Int), ixOf (k : Int) (s : Int), HIXL.out, ?_, hnx.1, hnx.2.1, hnx.2.2.1, hnx.2.2.2.1, HNZ.out, hnx.2.2.2.2⟩⟩
            rw [HIX.out, show 2 + (64 * k + s) = 2 + k * 64 + s by omega]
            rfl
        · have hge : ¬ (64 : Int) < 64 := by omega
          have HE3 : Hid (∀ l' s' : Int, (l' = 0 ∨ l' = 1 ∨ l' = 2 ∨ l' = 3) → partI n l' < s' → s' < 64 → l' < ((k + 1 : Nat) : Int) → rows (ixOf l' s') = []) := Lib.hid (fun l' s' hl hp hs hlex => by
            by_cases e : l' = (k : Int)
            · rw [e] at hp ⊢
              rw [HPE.out] at hp
              exact HE2.out s' hp (by omega)
            · exact HE.out l' s' hl hp hs (by omega))
          go_wp2
          go_roundw
          case rel => exact ⟨k + 1, by go_num, by omega, HE3, HO2⟩
          case measure => simp [RowKit.intOf]; omega
    · rw [show ((4 : Nat) : Int) = (4 : Int) from rfl]
      have HOV := Lib.hid (HJ.out.over HF.out (fun l' s' hl hp hs => HE.out l' s' hl hp hs (by omega)))
      have HS2 := Lib.hid (HS.out.only HO.out (fun _ _ h => h))
      have hx0 := HS2.out.blk.val 256 (by omega)
      have hm0 := HS2.out.blk.mapc
      have HROW := HS2.out.row 256 (by omega)
      obtain ⟨A, c, hV, _⟩ := HROW.form
      obtain ⟨R, hR⟩ : ∃ R, R = rows 256 := ⟨_, rfl⟩
      obtain ⟨N, hN⟩ : ∃ N, N = R.length := ⟨_, rfl⟩
      rw [← hR] at hV HROW
      rw [← hN] at hV
      rw [hV] at hx0 HROW
      have hxx : wr.cell? ⟨g, 258, none⟩ = some (.slice A N c) := hx0
      have HK := Lib.hid HROW
      have HN := Lib.hid hN
      have HR := Lib.hid hR
      have HRL : Hid (N ≤ 10000) := by rw [hN, hR]; exact Lib.hid (HLR.out 256)
      clear hx0 hV hN hR HROW
      by_cases h0 : N = 0
      · have hb : ((N : Int) == 0) = true := by simp [h0]
        have HZ : Hid (rows 256 = []) := Lib.hid (by rw [← HR.out]; exact List.length_eq_zero_iff.1 (by rw [← HN.out]; exact h0))
        clear h0
        go_wp2
        go_ret3
        exact ⟨HO.out, .inl ⟨HOV.out.2.1 HZ.out, rfl⟩⟩
      · have hb : ((N : Int) == 0) = false := by simp [h0]
        have HNZ : Hid (0 < N) := Lib.hid (by omega)
        have HRM : Hid (∀ h ∈ R, ∃ t ∈ L, t.h = h) := Lib.hid (fun h hm => by
          rw [HR.out] at hm
          obtain ⟨_, t, ht, hh, _⟩ := (HJ.out.mem _ _).1 hm
          exact ⟨t, ht, hh⟩)
        have HTU : Hid (∀ t ∈ L, ∀ w, Calls Try.prog 62 #[.int .i64 t.at_] w fun e w' => e = .returned (.int .i64 (turnI t.at_)) ∧ w = w') := Lib.hid (fun t ht w => by
          have h := turn_p t.at_ w
          have hb := HJ.out.bd t ht
          rw [cl_same _ hb.1 hb.2] at h
          exact h)
        clear h0
        have hNb := HRL.out
        go_upto_region 15 with fail
        obtain ⟨w5, hw5⟩ : ∃ w5, w5 = wr := ⟨_, rfl⟩
        rw [← hw5]
        have HS5 : Hid (WS w5 g b F n last L vals rows) := by rw [hw5]; exact HS2
        have HK5 : Hid (Ks w5 F (.slice A N c) R) := by rw [hw5]; exact HK
        have HO5 : Hid (Only (fun _ => False) w w5) := by rw [hw5]; exact HO
        clear hw5 hxx hm0 HS2 HK HO
        go_loopw [8, 57, 10] (fun v8 v57 _ wr => ∃ (k : Nat) (x : Int), v57 = .int .i64 (k : Int) ∧ v8 = .int .i64 x ∧ k ≤ N ∧ Hid (∀ h ∈ R.take k, ∀ t ∈ L, t.h = h → x ≤ turnI t.at_) ∧ Hid (x = 1125899906842624 ∨ ∃ t ∈ L, x = turnI t.at_) ∧ wr = w5) (fun _ v57 _ _ => N - (RowKit.intOf v57).toNat)
        case atStart => exact ⟨0, 1125899906842624, rfl, rfl, Nat.zero_le _, Lib.hid (by simp), Lib.hid (.inl rfl), rfl⟩
        case round =>
          obtain ⟨k, x, rfl, rfl, hk, HX, HX2, rfl⟩ := hrel
          have hgo : k < N ∨ k = N := by omega
          rcases hgo with hlt | rfl
          · have hlt' : (k : Int) < (N : Int) := by omega
            have hkr : k < R.length := by rw [← HN.out]; exact hlt
            have hge : R[k]? = some R[k] := List.getElem?_eq_getElem hkr
            obtain ⟨t, ht, hth⟩ := HRM.out _ (List.getElem_mem hkr)
            rw [← hth] at hge
            clear hth hkr
            have hlk := HS5.out.map.look ht
            have HT := Lib.hid (HTU.out t ht)
            obtain ⟨a, h, l, s⟩ := t
            simp only at hge HT
            unfold Tm.v at hlk
            simp only at hlk
            have HTL := Lib.hid ht
            have HGE := Lib.hid hge
            obtain ⟨q2, o2, c2, he, hcc⟩ := Row.some_ (by have := HK5.out; unfold Ks at this; rw [← HN.out] at this; exact this) HNZ.out
            injection he with e1 e2 e3
            subst e1 e3
            have hK5 := HK5.out
            unfold Ks at hK5
            rw [← HN.out] at hK5
            have hx0 : wr.cell? ⟨q2, o2 + k, none⟩ = some (.int .i64 h) := Row.cell hK5 k (by rw [List.getElem?_map, hge]; rfl)
            have hm0 := HS5.out.blk.mapc
            have hfd := field_at ⟨a, h, l, s⟩ wr
            unfold Tm.v at hfd
            simp only at hfd
            clear ht hge hcc hK5
            go_wp2_with (go_at_call 62; refine (HT.out _).mono ?_; rintro e w' ⟨rfl, rfl⟩)
            go_roundw
            case rel =>
              refine ⟨k + 1, mn x (turnI a), by go_num, by first | rfl | simp, by omega, Lib.hid ?_, Lib.hid ?_, trivial⟩
              · intro h2 hm2 t2 ht2 hh2
                rw [List.take_add_one, HGE.out] at hm2
                have hle : mn x (turnI a) ≤ x ∧ mn x (turnI a) ≤ turnI a := by unfold mn; split <;> omega
                rcases List.mem_append.1 hm2 with h3 | h3
                · exact Int.le_trans hle.1 (HX.out h2 h3 t2 ht2 hh2)
                · simp at h3
                  rw [h3] at hh2
                  have := HJ.out.one ht2 HTL.out hh2
                  rw [this]
                  exact hle.2
              · unfold mn
                split
                · exact .inr ⟨_, HTL.out, rfl⟩
                · exact HX2.out
            case measure => simp [RowKit.intOf]; omega
          · have hge : ¬ (k : Int) < k := by omega
            have HNE : Hid (L ≠ []) := Lib.hid (fun e => by
              have : R ≠ [] := fun h => by have h1 := HN.out; have h2 := HNZ.out; rw [h] at h1; simp at h1; omega
              obtain ⟨h, hm⟩ := List.exists_mem_of_ne_nil R this
              obtain ⟨t, ht, _⟩ := HRM.out h hm
              rw [e] at ht
              cases ht)
            have HRE : Hid (rows 256 ≠ []) := Lib.hid (fun e => by have h1 := HN.out; have h2 := HNZ.out; rw [HR.out, e] at h1; simp at h1; omega)
            have HFIN := Lib.hid (HOV.out.2.2 x (fun t ht => HX.out t.h (by rw [HN.out, List.take_length, HR.out]; exact HOV.out.1 t ht) t ht rfl) HX2.out HNE.out)
            go_wp2
            go_quiet (fail)
            go_wp2
            go_ret3
            exact ⟨HO5.out.drewN _, .inr ⟨x, 256, by omega, rfl, HFIN.out.1, HFIN.out.2.1, HFIN.out.2.2.1, HFIN.out.2.2.2.1, HRE.out, HFIN.out.2.2.2.2⟩⟩

end Go.Proofs.Ytmkcckkjkfmheaa.Wh

/- Wheel: Add, Time. -/
set_option linter.unusedVariables false
set_option linter.unusedSimpArgs false
set_option maxRecDepth 100000
namespace Go.Proofs.Ytmkcckkjkfmheaa.Wh
open Go.RowKit Go.Maps Go.Proofs.Ytmkcckkjkfmheaa.Base Go.Proofs.Ytmkcckkjkfmheaa.Rws Go.Proofs.YtmkcckkjkfmheaaW.PrintWords Go.Proofs.YtmkcckkjkfmheaaW.PrintMore
attribute [local go_sem] max2_mx min2_mn max_two min_two max_three min_three max_four min_four

theorem add_nil (x : Int) (w : World) : Calls Try.prog 27 #[.pointer none, .int .i64 x] w fun e w' => e = .returned (.tuple #[.int .i64 0, .int .i64 1]) ∧ w = w' := by
  go_enter Try.func27, Try.ntmps27
  go_wp2_with (go_at_call 43; refine (none_nil _).mono ?_; rintro e w' ⟨rfl, rfl⟩)
  go_ret2
  exact ⟨rfl, rfl⟩

theorem add_full {w : World} {g b : Nat} {n last : Int} {vals : Nat → Value} {L : List Tm} (x : Int) (h : WB w g b n last vals) (hm : TM w b L) (hl : L.length = 4096) : Calls Try.prog 27 #[.pointer (some ⟨g, 0, none⟩), .int .i64 x] w fun e w' => e = .returned (.tuple #[.int .i64 0, .int .i64 6]) ∧ w = w' := by
  have hc := h.mapc
  have H := Lib.hid h
  obtain ⟨D, ho, hd⟩ := hm
  have hl : (Builtin.len_ #[85] 3 #[.map (some b)]).run Try.prog w = .ok (.int .i64 4096) w := by
    have := ho.len Try.underlying85 3
    rw [hd.size, hl] at this
    exact this
  clear h ho hd
  go_enter Try.func27, Try.ntmps27
  go_wp2_with (go_at_call 43; refine (none_p H.out).mono ?_; rintro e w' ⟨rfl, rfl⟩)
  go_ret2
  exact ⟨rfl, rfl⟩

set_option maxHeartbeats 4000000 in
set_option maxRecDepth 100000 in
theorem add_p {w : World} {g b : Nat} {F : Nat → Prop} {n last : Int} {L : List Tm} {vals : Nat → Value} {rows : Nat → List Int} (x : Int) (hs : WS w g b F n last L vals rows) (hn : cl n = n) (h0 : 0 ≤ last) (h1 : last ≤ 1000000) (hl : ∀ i, (rows i).length ≤ 10000) (hL : L.length < 4096) :
    Calls Try.prog 27 #[.pointer (some ⟨g, 0, none⟩), .int .i64 x] w fun e w' => e = .returned (.tuple #[.int .i64 (last + 1), .int .i64 0]) ∧ PostW w g b F n (last + 1) (putL n L ⟨cl x, last + 1, 0, 0⟩) (putRows n rows ⟨cl x, last + 1, 0, 0⟩) w' := by
  have HS := Lib.hid hs
  obtain ⟨D, ho, hd⟩ := hs.map
  have hlen : (Builtin.len_ #[85] 3 #[.map (some b)]).run Try.prog w = .ok (.int .i64 (L.length : Nat)) w := by
    rw [← hd.size]
    exact ho.len Try.underlying85 3
  obtain ⟨K, hK⟩ : ∃ K, K = L.length := ⟨_, rfl⟩
  rw [← hK] at hlen
  have hlt : (K : Int) < 4096 := by omega
  have hc := hs.blk.mapc
  have hla := hs.blk.lst
  have hfl := hs.blk.frozen 1
  have HX : Hid (∀ w, Calls Try.prog 26 #[.int .i64 x] w fun e w' => e = .returned (.int .i64 (cl x)) ∧ w = w') := Lib.hid (fun w => clamp_p x w)
  have HC : Hid (cl (cl x) = cl x) := Lib.hid (cl_same _ (cl_bounds x).1 (cl_bounds x).2)
  obtain ⟨y, hy⟩ : ∃ y, y = cl x := ⟨_, rfl⟩
  rw [← hy] at HX HC ⊢
  have HKL : Hid (L.length ≤ 10000) := Lib.hid (by omega)
  have HN := Lib.hid hn
  have HR := Lib.hid hl
  obtain ⟨w1, hw1⟩ : ∃ w1, w1 = w.setCell ⟨g, 1, none⟩ (.int .i64 (last + 1)) := ⟨_, rfl⟩
  have ho1 : Only (fun k => k = g) w w1 := by rw [hw1]; exact (Only.refl (fun k => k = g) w).setCell (p := ⟨g, 1, none⟩) (.inl rfl) _
  have hgb : g ≠ b := by obtain ⟨cs5, hcs5⟩ := hs.blk.isBlk; exact hs.map.ne hcs5
  have hs1 : WS w1 g b F n (last + 1) L vals rows := by
    obtain ⟨cs5, hcs5⟩ := hs.blk.isBlk
    refine ⟨by rw [hw1]; exact hs.blk.setLast _, hs.map.only ho1 (fun e => hgb e.symm), fun i hi => Row.only (hs.row i hi) ho1 (fun q hq e => Ks.ne (hs.row i hi) hcs5 (by decide) (by rw [hq, e])), hs.ap, hs.fg, hs.fb, fun k hk => Nat.lt_of_lt_of_le (hs.flt k hk) ho1.size⟩
  have HS1 := Lib.hid hs1
  have HO1 := Lib.hid ho1
  have hb1 := hs1.blk.lst
  have HW1 : Hid (Only F w w1) := Lib.hid (ho1.mono (fun k hk => by rw [hk]; exact hs.fg))
  have HP : Hid (Calls Try.prog 44 #[.pointer (some ⟨g, 0, none⟩), .agg #[.int .i64 y, .int .i64 (last + 1), .int .i64 0, .int .i64 0]] w1.drew fun e w' => e = .returned (.tuple #[]) ∧ PostW w1.drew g b F n (last + 1) (putL n L ⟨y, last + 1, 0, 0⟩) (putRows n rows ⟨y, last + 1, 0, 0⟩) w') :=
    Lib.hid (put_p (hs1.only ((Only.refl (fun _ => False) w1).drew) (fun _ _ h => h)) ⟨y, last + 1, 0, 0⟩ hn HC.out (wf64 (x := last + 1) (by omega) (by omega)) hl HKL.out)
  clear hs ho hd hy hn hl hL hK ho1 hgb hs1
  go_enter Try.func27, Try.ntmps27
  go_wp2_with (go_at_call 43; refine (none_p HS.out.blk).mono ?_; rintro e w' ⟨rfl, rfl⟩)
  rw [← hw1]
  clear hc hla hfl hlen hlt hw1
  go_region_held3 (fun w' => w'.cell? ⟨g, 1, none⟩ = some (.int .i64 (last + 1))) (first | exact hz' | exact hb1) (first | (go_at_call 26; refine (HX.out _).mono ?_; rintro e w' ⟨rfl, rfl⟩) | (go_at_call 44; refine HP.out.mono ?_; rintro e w' ⟨rfl, F', vals', hW', hF', hO'⟩; have hz' := hW'.blk.lst; have HZ' := Lib.hid hW'; have HF' := Lib.hid hF'; have HO' := Lib.hid hO'; clear hW' hF' hO'))
  all_goals
    go_wp2
    go_ret2
    exact ⟨rfl, F', vals', HZ'.out, fun k hk => (HF'.out k hk).imp id (fun h => Nat.le_trans HO1.out.size h), HW1.out.drew.trans HO'.out⟩

end Go.Proofs.Ytmkcckkjkfmheaa.Wh

/- Wheel: New. -/
set_option linter.unusedVariables false
set_option linter.unusedSimpArgs false
set_option maxRecDepth 100000
namespace Go.Proofs.Ytmkcckkjkfmheaa.Wh
open Go.RowKit Go.Maps Go.Proofs.Ytmkcckkjkfmheaa.Base Go.Proofs.Ytmkcckkjkfmheaa.Rws Go.Proofs.YtmkcckkjkfmheaaW.PrintWords Go.Proofs.YtmkcckkjkfmheaaW.PrintMore
attribute [local go_sem] max2_mx min2_mn max_two min_two max_three min_three max_four min_four

/-- A new wheel's cells. -/
def newCells (n : Int) (b : Nat) : Array Value := (.int .i64 n :: .int .i64 0 :: (List.replicate 257 (.slice none 0 0) ++ [.map (some b)])).toArray

theorem new_built (n : Int) (b : Nat) : Try.prog.built 89 [(0, .int .i64 n), (4, .map (some b))] = some (newCells n b) := by
  kernel_rfl

theorem cells_any (m : Nat) (n : Int) (b : Nat) : ((.int .i64 n :: .int .i64 0 :: (List.replicate m (.slice none 0 0) ++ [.map (some b)])).toArray : Array Value).size = m + 3 ∧ (∀ i, i < m → ((.int .i64 n :: .int .i64 0 :: (List.replicate m (.slice none 0 0) ++ [.map (some b)])).toArray : Array Value)[2 + i]? = some (.slice none 0 0)) ∧ ((.int .i64 n :: .int .i64 0 :: (List.replicate m (.slice none 0 0) ++ [.map (some b)])).toArray : Array Value)[m + 2]? = some (.map (some b)) := by
  refine ⟨by simp, fun i hi => ?_, ?_⟩
  · rw [List.getElem?_toArray, show 2 + i = i + 1 + 1 by omega, List.getElem?_cons_succ, List.getElem?_cons_succ, List.getElem?_append_left (by simpa using hi), List.getElem?_replicate, if_pos hi]
  · rw [List.getElem?_toArray, show m + 2 = m + 1 + 1 from rfl, List.getElem?_cons_succ, List.getElem?_cons_succ, List.getElem?_append_right (by simp)]
    simp

theorem new_cells (n : Int) (b : Nat) : (newCells n b).size = 260 ∧ (newCells n b)[0]? = some (.int .i64 n) ∧ (newCells n b)[1]? = some (.int .i64 0) ∧ (∀ i, i < 257 → (newCells n b)[2 + i]? = some (.slice none 0 0)) ∧ (newCells n b)[259]? = some (.map (some b)) := by
  have h := cells_any 257 n b
  exact ⟨h.1, rfl, rfl, h.2.1, h.2.2⟩

/-- An empty map. -/
theorem TM.new (w : World) : TM (w.alloc (.map #[] 0)) w.heap.size [] := ⟨_, World.ownsMap_made w _ _ _, Holds.empty⟩

set_option maxRecDepth 100000 in
theorem new_p (x : Int) (w : World) : Calls Try.prog 24 #[.int .i64 x] w fun e w' => ∃ g b, e = .returned (.pointer (some ⟨g, 0, none⟩)) ∧ WS w' g b (fun k => k = g ∨ k = b) (cl x) 0 [] (fun _ => .slice none 0 0) (fun _ => []) ∧ w.heap.size ≤ g ∧ w.heap.size ≤ b ∧ Only (fun _ => False) w w' := by
  have HX : Hid (∀ w, Calls Try.prog 26 #[.int .i64 x] w fun e w' => e = .returned (.int .i64 (cl x)) ∧ w = w') := Lib.hid (fun w => clamp_p x w)
  obtain ⟨y, hy⟩ : ∃ y, y = cl x := ⟨_, rfl⟩
  rw [← hy] at HX ⊢
  clear hy
  obtain ⟨w1, hw1⟩ : ∃ w1, w1 = w.alloc (.map #[] 0) := ⟨_, rfl⟩
  obtain ⟨C, hC⟩ : ∃ C, C = newCells y w.heap.size := ⟨_, rfl⟩
  have HBU : Hid (Try.prog.built 89 [(0, .int .i64 y), (4, .map (some w.heap.size))] = some C) := Lib.hid (by rw [hC]; exact new_built _ _)
  have hm : (Instr.makeMap 85 none).run Try.prog w = .ok (.map (some w.heap.size)) w1 := by rw [hw1]; exact run_makeMap _ _
  have HC := Lib.hid hC
  have HW := Lib.hid hw1
  clear hC hw1
  go_enter Try.func24, Try.ntmps24
  go_wp2_with (first
    | (go_at_call 26; refine (HX.out _).mono ?_; rintro e w' ⟨rfl, rfl⟩)
    | (refine Go.wpList_buildTo rfl 89 #[(0, .tmp 4), (4, .tmp 5)] rfl (some 6) rfl C (Eq.trans (congrArg (fun l => Try.prog.built 89 l) (by kernel_rfl)) HBU.out) ?_))
  go_ret
  have hsz : w1.heap.size = w.heap.size + 1 := by rw [HW.out]; show (w.heap.push _).size = _; simp
  have hO1 : Only (fun _ => False) w w1 := by rw [HW.out]; exact (Only.refl _ w).alloc _
  have hO2 : Only (fun _ => False) w1 (w1.alloc (.cells C 89)) := (Only.refl _ w1).alloc _
  refine ⟨w1.heap.size, w.heap.size, rfl, ⟨⟨C, heap_alloc_new w1 _, ?_⟩, ?_, fun i hi => Row.nil _ _ _ _, fun i hi j hj hij k hk => ?_, .inl rfl, .inr rfl, fun k hk => ?_⟩, by omega, Nat.le_refl _, hO1.trans hO2⟩
  · rw [HC.out]
    exact new_cells y w.heap.size
  · refine TM.only ?_ hO2 (fun h => h)
    rw [HW.out]
    exact TM.new w
  · simp [Value.ownBlock] at hk
  · have h1 : (w1.alloc (.cells C 89)).heap.size = w1.heap.size + 1 := by show (w1.heap.push _).size = _; simp
    rcases hk with rfl | rfl <;> omega
end Go.Proofs.Ytmkcckkjkfmheaa.Wh

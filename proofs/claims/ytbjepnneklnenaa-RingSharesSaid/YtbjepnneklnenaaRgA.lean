/- Ring: what may be, in plain Lean. -/
import Derived.Test.YtbjepnneklnenaaRgX
set_option linter.unusedVariables false
set_option linter.unusedSimpArgs false
namespace Go.Proofs.Ytbjepnneklnenaa.Rg
open Go.RowKit Go.Lib Go.Proofs.Ytbjepnneklnenaa.Crc Go.Proofs.YtbjepnneklnenaaW.PrintWords Go.Proofs.YtbjepnneklnenaaW.PrintMore
open Go.Proofs.Ytbjepnneklnenaa.PR (hourglassref42_Wrong.f hourglassref42_Wrong.j0 hourglassref42_Wrong.l0 hourglassref42_Wrong.l1 hourglassref42_Wrong.l2)

/-- One is there twice. -/
def dupB : List Int → List Int → Bool
  | _, [] => false
  | pre, x :: r => decide (x ∈ pre) || dupB (pre ++ [x]) r

theorem dupB_iff : ∀ (r pre : List Int), pre.Nodup → (dupB pre r = false ↔ (pre ++ r).Nodup)
  | [], pre, hp => by simp [dupB, hp]
  | x :: r, pre, hp => by
    unfold dupB
    rw [Bool.or_eq_false_iff, decide_eq_false_iff_not]
    constructor
    · rintro ⟨h1, h2⟩
      have hn : (pre ++ [x]).Nodup := by
        rw [List.nodup_append]
        refine ⟨hp, by simp, ?_⟩
        intro a ha b hb
        rw [List.mem_singleton] at hb
        subst hb
        exact fun e => h1 (e ▸ ha)
      have := (dupB_iff r (pre ++ [x]) hn).1 h2
      rwa [List.append_assoc] at this
    · intro h
      have h3 : ((pre ++ [x]) ++ r).Nodup := by rwa [List.append_assoc]
      have hn : (pre ++ [x]).Nodup := h3.sublist (List.sublist_append_left _ _)
      refine ⟨fun hm => ?_, (dupB_iff r (pre ++ [x]) hn).2 h3⟩
      rw [List.nodup_append] at hn
      exact hn.2.2 x hm x (by simp) rfl

/-- 0: may be, 2: may not, 8: one is there twice. -/
def wr (l : List Int) (R : Int) : Int := if R < 1 ∨ 32 < R ∨ 64 < l.length then 2 else if l.any bad then 2 else if dupB [] l then 8 else 0

theorem wr_zero {l : List Int} {R : Int} (h : wr l R = 0) : 1 ≤ R ∧ R ≤ 32 ∧ l.length ≤ 64 ∧ l.any bad = false ∧ l.Nodup := by
  unfold wr at h
  split at h
  · omega
  · rename_i h1
    split at h
    · omega
    · rename_i h2
      split at h
      · omega
      · rename_i h3
        refine ⟨by omega, by omega, by omega, by simpa using h2, ?_⟩
        have := (dupB_iff l [] List.nodup_nil).1 (by simpa using h3)
        simpa using this

theorem bad_no {l : List Int} (h : l.any bad = false) : ∀ m ∈ l, 0 ≤ m ∧ m ≤ 63 := by
  intro m hm
  have := (List.any_eq_false.1 h) m hm
  unfold bad at this
  simp at this
  omega

theorem rd_get {l : List Int} {i : Nat} {x : Int} (h : l[i]? = some x) : rd l (i : Int) = x := by
  unfold rd
  simp [h]

theorem w_succ (i : Nat) (h : i ≤ 100000) : wrap64 ((i : Int) + 1) = ((i + 1 : Nat) : Int) := by unfold wrap64; omega

theorem bad_run (l : List Int) (hl : l.length ≤ 100) : ∀ (c i F : Nat), i + c = l.length → hourglassref42_Wrong.l0 (F + c + 1) l (i : Int) = if (l.drop i).any bad then some 2 else hourglassref42_Wrong.l1 F l 0
  | 0, i, F, h => by
    have : l.drop i = [] := List.drop_eq_nil_of_le (by omega)
    rw [this]
    rw [hourglassref42_Wrong.l0, if_neg (by omega)]
    simp
  | c + 1, i, F, h => by
    obtain ⟨x, hx⟩ : ∃ x, l[i]? = some x := ⟨_, List.getElem?_eq_getElem (by omega)⟩
    have hd : l.drop i = x :: l.drop (i + 1) := by
      obtain ⟨h1, h2⟩ := List.getElem?_eq_some_iff.1 hx
      rw [List.drop_eq_getElem_cons h1, h2]
    have ih := bad_run l hl c (i + 1) F (by omega)
    rw [show F + (c + 1) + 1 = (F + c + 1) + 1 by omega, hourglassref42_Wrong.l0, if_pos (by omega), if_pos (by omega), rd_get hx, w_succ i (by omega), ih, hd, List.any_cons]
    unfold bad
    by_cases h1 : x < 0
    · simp [h1]
    · by_cases h2 : 63 < x
      · have : 64 ≤ x := by omega
        simp [h2, this]
      · have : ¬ 64 ≤ x := by omega
        simp [h1, h2, this]

theorem two_run (l : List Int) (hl : l.length ≤ 100) (i : Nat) (x : Int) (hx : l[i]? = some x) : ∀ (c j F : Nat), j + c = i → hourglassref42_Wrong.l2 (F + c + 1) l (i : Int) (j : Int) = if x ∈ (l.take i).drop j then some 8 else hourglassref42_Wrong.l1 F l ((i + 1 : Nat) : Int)
  | 0, j, F, h => by
    have hlt := (List.getElem?_eq_some_iff.1 hx).1
    have : (l.take i).drop j = [] := List.drop_eq_nil_of_le (by rw [List.length_take]; omega)
    rw [this]
    rw [hourglassref42_Wrong.l2, if_neg (by omega), w_succ i (by omega)]
    simp
  | c + 1, j, F, h => by
    have hlt := (List.getElem?_eq_some_iff.1 hx).1
    obtain ⟨y, hy⟩ : ∃ y, l[j]? = some y := ⟨_, List.getElem?_eq_getElem (by omega)⟩
    have hd : (l.take i).drop j = y :: (l.take i).drop (j + 1) := by
      have h1 : j < (l.take i).length := by rw [List.length_take]; omega
      rw [List.drop_eq_getElem_cons h1, List.getElem_take]
      obtain ⟨h2, h3⟩ := List.getElem?_eq_some_iff.1 hy
      rw [h3]
    have ih := two_run l hl i x hx c (j + 1) F (by omega)
    rw [show F + (c + 1) + 1 = (F + c + 1) + 1 by omega, hourglassref42_Wrong.l2, if_pos (by omega), if_pos (by omega), if_pos (by omega), if_pos (by omega), if_pos (by omega), rd_get hx, rd_get hy, w_succ j (by omega), ih, hd]
    by_cases h1 : x = y
    · simp [h1]
    · simp [h1]

theorem dup_run (l : List Int) (hl : l.length ≤ 100) : ∀ (r pre : List Int) (F : Nat), l = pre ++ r → hourglassref42_Wrong.l1 (F + 102 * r.length + 1) l (pre.length : Int) = if dupB pre r then some 8 else some 0
  | [], pre, F, h => by
    rw [List.append_nil] at h
    subst h
    rw [hourglassref42_Wrong.l1, if_neg (by omega)]
    simp [dupB]
  | x :: r, pre, F, h => by
    have hlen : l.length = pre.length + (r.length + 1) := by rw [h]; simp
    have hx : l[pre.length]? = some x := by rw [h]; simp
    have htk : l.take pre.length = pre := by rw [h]; simp
    rw [List.length_cons, show F + 102 * (r.length + 1) + 1 = (F + 102 * r.length + 102) + 1 by omega, hourglassref42_Wrong.l1, if_pos (by omega)]
    have h2 := two_run l hl pre.length x hx pre.length 0 (F + 102 * r.length + 101 - pre.length) (by omega)
    rw [show F + 102 * r.length + 101 - pre.length + pre.length + 1 = F + 102 * r.length + 102 by omega] at h2
    have ih := dup_run l hl r (pre ++ [x]) (F + 100 - pre.length) (by rw [h]; simp)
    rw [List.length_append, List.length_singleton] at ih
    rw [show F + 100 - pre.length + 102 * r.length + 1 = F + 102 * r.length + 101 - pre.length by omega] at ih
    rw [ih, htk, List.drop_zero] at h2
    refine h2.trans ?_
    rw [show dupB pre (x :: r) = (decide (x ∈ pre) || dupB (pre ++ [x]) r) from rfl]
    by_cases h3 : x ∈ pre
    · simp [h3]
    · simp [h3]

theorem wrong_f (l : List Int) (hl : l.length ≤ 100) (R : Int) (F : Nat) : hourglassref42_Wrong.f (F + 20000) l R = some (wr l R) := by
  unfold hourglassref42_Wrong.f wr
  by_cases h1 : R < 1
  · rw [if_pos h1, if_pos (.inl h1)]
    rw [show F + 20000 = (F + 19999) + 1 by omega, hourglassref42_Wrong.j0, if_pos rfl]
  · rw [if_neg h1]
    by_cases h2 : 32 < R
    · rw [if_pos (show R > 32 from h2), if_pos (.inr (.inl h2))]
      rw [show F + 20000 = (F + 19999) + 1 by omega, hourglassref42_Wrong.j0, if_pos rfl]
    · rw [if_neg (show ¬ R > 32 from h2)]
      rw [show F + 20000 = (F + 19999) + 1 by omega, hourglassref42_Wrong.j0]
      by_cases h3 : 64 < l.length
      · rw [if_pos (by simp; omega), if_pos (.inr (.inr h3))]
      · rw [if_neg (by simp; omega), if_neg (by omega)]
        have hb := bad_run l hl l.length 0 (F + 19998 - l.length) (by omega)
        rw [show F + 19998 - l.length + l.length + 1 = F + 19999 by omega, List.drop_zero] at hb
        refine hb.trans ?_
        by_cases h4 : l.any bad = true
        · simp only [h4, if_true]
        · simp only [h4, if_false, Bool.false_eq_true]
          have hd := dup_run l hl l [] (F + 19997 - l.length - 102 * l.length) (by simp)
          rw [show F + 19997 - l.length - 102 * l.length + 102 * l.length + 1 = F + 19998 - l.length by omega] at hd
          refine hd.trans ?_
          split <;> rfl

theorem leI_trans (a b c : Int) (h1 : leI a b = true) (h2 : leI b c = true) : leI a c = true := by
  unfold leI at *
  have := of_decide_eq_true h1
  have := of_decide_eq_true h2
  exact decide_eq_true (by omega)
theorem leI_total (a b : Int) : (leI a b || leI b a) = true := by
  unfold leI
  rw [Bool.or_eq_true]
  by_cases h : a ≤ b
  · exact .inl (decide_eq_true h)
  · exact .inr (decide_eq_true (by omega))
theorem srt_perm (l : List Int) : (srt l).Perm l := List.mergeSort_perm _ _
theorem srt_pw (l : List Int) : (srt l).Pairwise (fun a b => leI a b = true) := List.pairwise_mergeSort leI_trans leI_total l
theorem srt_len (l : List Int) : (srt l).length = l.length := (srt_perm l).length_eq
theorem mem_srt {l : List Int} {x : Int} : x ∈ srt l ↔ x ∈ l := (srt_perm l).mem_iff

theorem srt_le {l : List Int} {i j : Nat} (hij : i ≤ j) (hj : j < (srt l).length) : (srt l)[i]'(by omega) ≤ (srt l)[j] := by
  by_cases h : i = j
  · subst h; exact Int.le_refl _
  · exact of_decide_eq_true ((List.pairwise_iff_getElem.1 (srt_pw l)) i j (by omega) hj (by omega))

theorem get_bang (s : List Int) (j : Nat) (h : j < s.length) : s.toArray[j]! = s[j] := by
  rw [getElem!_pos s.toArray j (by simpa using h)]
  simp

theorem compact_len (l : List Int) : (Lib.compact (srt l)).length = l.length ↔ l.Nodup := by
  rw [← srt_len l, ← (srt_perm l).nodup_iff]
  generalize hs : srt l = s
  have hle : ∀ (i j : Nat) (hij : i ≤ j) (hj : j < s.length), s[i]'(by omega) ≤ s[j] := fun i j hij hj => by
    subst hs
    exact srt_le hij hj
  constructor
  · intro h
    unfold Lib.compact Lib.compactUpTo at h
    rw [List.length_map] at h
    have h2 : ((List.range s.length).filter (keeps s.toArray)).length = (List.range s.length).length := by rw [h, List.length_range]
    have h3 := List.length_filter_eq_length_iff.1 h2
    rw [List.nodup_iff_pairwise_ne, List.pairwise_iff_getElem]
    intro i j hi hj hij e
    have hk := h3 j (List.mem_range.2 hj)
    unfold keeps at hk
    have hk := of_decide_eq_true hk
    rcases hk with h0 | hne
    · omega
    · rw [get_bang s j hj, get_bang s (j - 1) (by omega)] at hne
      have h4 := hle i (j - 1) (by omega) (by omega)
      have h5 := hle (j - 1) j (by omega) hj
      omega
  · intro h
    rw [Lib.compact_all]
    intro j hj
    unfold keeps
    refine decide_eq_true ?_
    by_cases h0 : j = 0
    · exact .inl h0
    · right
      rw [get_bang s j hj, get_bang s (j - 1) (by omega)]
      intro e
      have := (List.pairwise_iff_getElem.1 (List.nodup_iff_pairwise_ne.1 h)) (j - 1) j (by omega) hj (by omega)
      exact this e.symm
end Go.Proofs.Ytbjepnneklnenaa.Rg

/- Hist: spans rising, rows of buckets, a quantile: the document's answers are the program's; in plain Lean. No condition. -/
import Derived.Test.YtognnjhphnhbfaaHiA
set_option linter.unusedVariables false
set_option linter.unusedSimpArgs false
namespace Go.Proofs.Ytognnjhphnhbfaa.Hi
open Go.RowKit Go.Proofs.Ytognnjhphnhbfaa.Base Go.Proofs.YtognnjhphnhbfaaW.PrintWords

/-! ### Spans rising -/
/-- A span in its place, behind those that are the same. -/
def ins (v : Int) : List Int → List Int
  | [] => [v]
  | x :: l => if v < x then v :: x :: l else x :: ins v l
def rising (l : List Int) : List Int := l.foldl (fun acc v => ins (cl v) acc) []

theorem ins_perm (v : Int) : ∀ L, (ins v L).Perm (v :: L)
  | [] => .refl _
  | x :: l => by
    unfold ins
    split
    · exact .refl _
    · exact ((ins_perm v l).cons x).trans (.swap _ _ _)

theorem ins_sorted (v : Int) : ∀ {L : List Int}, L.Pairwise (· ≤ ·) → (ins v L).Pairwise (· ≤ ·)
  | [], _ => by simp [ins]
  | x :: l, h => by
    rw [List.pairwise_cons] at h
    unfold ins
    split
    · rename_i hlt
      refine List.pairwise_cons.2 ⟨fun y hy => ?_, List.pairwise_cons.2 h⟩
      rcases List.mem_cons.1 hy with rfl | hy
      · omega
      · have := h.1 y hy; omega
    · rename_i hlt
      refine List.pairwise_cons.2 ⟨fun y hy => ?_, ins_sorted v h.2⟩
      rcases List.mem_cons.1 ((ins_perm v l).mem_iff.1 hy) with rfl | hy
      · omega
      · exact h.1 y hy

theorem foldl_ins : ∀ (l acc : List Int), acc.Pairwise (· ≤ ·) → (l.foldl (fun acc v => ins (cl v) acc) acc).Pairwise (· ≤ ·) ∧ (l.foldl (fun acc v => ins (cl v) acc) acc).Perm (l.map cl ++ acc)
  | [], acc, h => ⟨h, .refl _⟩
  | v :: l, acc, h => by
    obtain ⟨h1, h2⟩ := foldl_ins l (ins (cl v) acc) (ins_sorted _ h)
    refine ⟨h1, h2.trans ?_⟩
    rw [List.map_cons, List.cons_append]
    exact ((ins_perm (cl v) acc).append_left _).trans List.perm_middle

theorem rising_sorted (l : List Int) : (rising l).Pairwise (· ≤ ·) := (foldl_ins l [] List.Pairwise.nil).1
theorem rising_perm (l : List Int) : (rising l).Perm (l.map cl) := by have := (foldl_ins l [] List.Pairwise.nil).2; rw [List.append_nil] at this; exact this
theorem rising_len (l : List Int) : (rising l).length = l.length := by rw [(rising_perm l).length_eq, List.length_map]

theorem cl_cl (v : Int) : cl (cl v) = cl v := by have := cl_bounds v; exact cl_same _ this.1 this.2
theorem idx_cl (v : Int) : idx (cl v) = idx v := by unfold idx; rw [cl_cl]

/-- The buckets of spans, rising. -/
theorem risen_perm (l : List Int) : ((rising l).map idx).Perm (l.map idx) := by
  have := (rising_perm l).map idx
  rw [List.map_map] at this
  refine this.trans (.of_eq ?_)
  refine List.map_congr_left fun v _ => ?_
  exact idx_cl v

theorem risen_sorted (l : List Int) : ((rising l).map idx).Pairwise (· ≤ ·) := List.Pairwise.map idx (fun _ _ h => idx_mono h) (rising_sorted l)

/-! ### Rows depend on how often alone -/
theorem keysM_perm {a b : List Int} (h : a.Perm b) : keysM a = keysM b := by
  have := keysM_of (is := b) (nodup_nub a) (fun x => by rw [mem_nub]; exact h.mem_iff)
  exact this
theorem rowsM_perm {a b : List Int} (h : a.Perm b) : rowsM a = rowsM b := by
  unfold rowsM
  rw [keysM_perm h]
  refine List.map_congr_left fun i _ => ?_
  unfold rowOf
  rw [h.count_eq]
theorem quantM_perm {a b : List Int} (h : a.Perm b) (p : Int) : quantM a p = quantM b p := by
  unfold quantM
  rw [h.length_eq, rowsM_perm h]

theorem keysM_sorted (is : List Int) : (keysM is).Pairwise (· < ·) := by
  have h1 : (keysM is).Pairwise (fun a b => leI a b = true) := List.pairwise_mergeSort (fun a b c h1 h2 => by simp only [leI, decide_eq_true_eq] at *; omega) (fun a b => by simp only [leI, Bool.or_eq_true, decide_eq_true_eq]; omega) _
  have h2 : (keysM is).Nodup := (List.mergeSort_perm _ _).nodup_iff.2 (nodup_nub is)
  have h3 := h1.and h2
  exact h3.imp (fun h => by have h4 := h.1; have h5 := h.2; simp only [leI, decide_eq_true_eq] at h4; omega)

/-! ### A quantile -/
/-- What so many of each make, one behind the other. -/
def runs (c : Int → Nat) (keys : List Int) : List Int := keys.flatMap (fun i => List.replicate (c i) i)

theorem count_runs (c : Int → Nat) (x : Int) : ∀ {keys : List Int}, keys.Nodup → (runs c keys).count x = if x ∈ keys then c x else 0
  | [], _ => by simp [runs]
  | k :: keys, h => by
    rw [List.nodup_cons] at h
    have ih := count_runs c x h.2
    unfold runs at ih ⊢
    rw [List.flatMap_cons, List.count_append, ih, List.count_replicate]
    by_cases e : k = x
    · subst e
      simp [h.1]
    · have e' : x ≠ k := fun h => e h.symm
      simp [e, e']

theorem runs_sorted (c : Int → Nat) : ∀ {keys : List Int}, keys.Pairwise (· < ·) → (runs c keys).Pairwise (· ≤ ·)
  | [], _ => List.Pairwise.nil
  | k :: keys, h => by
    rw [List.pairwise_cons] at h
    unfold runs
    rw [List.flatMap_cons, List.pairwise_append]
    refine ⟨?_, runs_sorted c h.2, fun a ha b hb => ?_⟩
    · rw [List.pairwise_replicate]; exact .inr (Int.le_refl _)
    · rw [(List.mem_replicate.1 ha).2]
      obtain ⟨i, hi, hb⟩ := List.mem_flatMap.1 hb
      rw [(List.mem_replicate.1 hb).2]
      exact Int.le_of_lt (h.1 i hi)

theorem runs_eq {s : List Int} (hs : s.Pairwise (· ≤ ·)) : runs (fun i => s.count i) (keysM s) = s := by
  have hk := keysM_sorted s
  have hn : (keysM s).Nodup := hk.imp (fun h => by omega)
  have hp : (runs (fun i => s.count i) (keysM s)).Perm s := by
    rw [List.perm_iff_count]
    intro x
    rw [count_runs _ _ hn]
    split
    · rfl
    · rename_i h
      rw [mem_keysM] at h
      exact (List.count_eq_zero.2 h).symm
  exact hp.eq_of_pairwise (le := (· ≤ ·)) (fun a b _ _ h1 h2 => by omega) (runs_sorted _ hk) hs

theorem scanQ_runs (c : Int → Nat) : ∀ (keys : List Int) (k : Int), 1 ≤ k → k ≤ (runs c keys).length → ∃ x, (runs c keys)[(k - 1).toNat]? = some x ∧ scanQ (keys.map (fun i => ⟨low i, high i, (c i : Nat)⟩)) k = some (low x)
  | [], k, h1, h2 => by simp [runs] at h2; omega
  | i :: keys, k, h1, h2 => by
    have hr : runs c (i :: keys) = List.replicate (c i) i ++ runs c keys := by unfold runs; rw [List.flatMap_cons]
    rw [hr] at h2 ⊢
    rw [List.length_append, List.length_replicate] at h2
    simp only [List.map_cons, scanQ]
    by_cases hc : k - (c i : Nat) ≤ 0
    · rw [if_pos hc]
      refine ⟨i, ?_, rfl⟩
      rw [List.getElem?_append_left (by rw [List.length_replicate]; omega), List.getElem?_replicate, if_pos (by omega)]
    · rw [if_neg hc]
      obtain ⟨x, hx, hs⟩ := scanQ_runs c keys (k - (c i : Nat)) (by omega) (by omega)
      refine ⟨x, ?_, hs⟩
      rw [List.getElem?_append_right (by rw [List.length_replicate]; omega), List.length_replicate]
      rw [← hx]
      congr 1
      omega

theorem kOf_bd (n : Nat) (hn : 0 < n) (h : n ≤ 1000) (p : Int) : 1 ≤ kOf n p ∧ kOf n p ≤ n := by
  have h1 : 0 ≤ mn (mx p 0) 1000 ∧ mn (mx p 0) 1000 ≤ 1000 := by unfold mn mx; split <;> (try split) <;> omega
  unfold kOf
  generalize mn (mx p 0) 1000 = q at *
  have h3 : (n : Int) * q ≤ n * 1000 := Int.mul_le_mul_of_nonneg_left h1.2 (by omega)
  have h2 : 0 ≤ (n : Int) * q := Int.mul_nonneg (by omega) h1.1
  generalize (n : Int) * q = x at *
  constructor <;> (unfold mx; split <;> omega)

/-- A quantile, off the buckets, rising. -/
theorem quant_sorted {s : List Int} (hs : s.Pairwise (· ≤ ·)) (h0 : 0 < s.length) (h1 : s.length ≤ 1000) (p : Int) : ∃ x, s[(kOf s.length p - 1).toNat]? = some x ∧ quantM s p = (low x, true) := by
  have hk := kOf_bd s.length h0 h1 p
  have hr := runs_eq hs
  obtain ⟨x, hx, hq⟩ := scanQ_runs (fun i => s.count i) (keysM s) (kOf s.length p) hk.1 (by rw [hr]; exact hk.2)
  rw [hr] at hx
  refine ⟨x, hx, ?_⟩
  unfold quantM
  rw [if_neg (by omega)]
  have : rowsM s = (keysM s).map (fun i => ⟨low i, high i, (s.count i : Nat)⟩) := rfl
  rw [this, hq]

/-! ### The document's rows -/
/-- Each number once, of those that stand side by side. -/
def ddF : Option Int → List Int → List Int
  | _, [] => []
  | q, x :: l => if q = some x then ddF (some x) l else x :: ddF (some x) l

theorem ddF_spec : ∀ (l : List Int) (q : Option Int), l.Pairwise (· ≤ ·) → (∀ p, q = some p → ∀ x ∈ l, p ≤ x) →
    (ddF q l).Pairwise (· < ·) ∧ (∀ x, x ∈ ddF q l ↔ x ∈ l ∧ q ≠ some x) ∧ (∀ p, q = some p → ∀ x ∈ ddF q l, p < x)
  | [], q, _, _ => by simp [ddF]
  | x :: l, q, h, hq => by
    rw [List.pairwise_cons] at h
    obtain ⟨i1, i2, i3⟩ := ddF_spec l (some x) h.2 (fun p hp y hy => by injection hp with hp; subst hp; exact h.1 y hy)
    unfold ddF
    split
    · rename_i e
      refine ⟨i1, fun y => ?_, fun p hp y hy => ?_⟩
      · rw [i2 y, List.mem_cons, e]
        constructor
        · rintro ⟨a, b⟩; exact ⟨.inr a, b⟩
        · rintro ⟨rfl | a, b⟩
          · exact absurd rfl b
          · exact ⟨a, b⟩
      · rw [e] at hp
        exact i3 p hp y hy
    · rename_i e
      refine ⟨List.pairwise_cons.2 ⟨fun y hy => i3 x rfl y hy, i1⟩, fun y => ?_, fun p hp y hy => ?_⟩
      · rw [List.mem_cons, i2 y, List.mem_cons]
        constructor
        · rintro (rfl | ⟨a, b⟩)
          · exact ⟨.inl rfl, e⟩
          · refine ⟨.inr a, fun hqy => b ?_⟩
            have h1 := h.1 y a
            have h2 := hq y hqy x (by simp)
            rw [show x = y by omega]
        · rintro ⟨rfl | a, b⟩
          · exact .inl rfl
          · by_cases hxy : x = y
            · exact .inl hxy.symm
            · exact .inr ⟨a, fun e2 => hxy (by injection e2)⟩
      · have h2 := hq p hp x (by simp)
        have h3 : p ≠ x := fun e2 => e (by rw [hp, e2])
        rcases List.mem_cons.1 hy with rfl | hy
        · omega
        · have := i3 x rfl y hy
          omega

theorem dd_keys {s : List Int} (hs : s.Pairwise (· ≤ ·)) : ddF none s = keysM s := by
  obtain ⟨h1, h2, _⟩ := ddF_spec s none hs (by simp)
  have := keysM_of (is := s) (ss := ddF none s) (h1.imp (fun h => by omega)) (fun x => by rw [h2 x]; simp)
  rw [← this]
  exact (List.mergeSort_of_pairwise (h1.imp (fun h => by simp only [leI, decide_eq_true_eq]; omega))).symm

end Go.Proofs.Ytognnjhphnhbfaa.Hi

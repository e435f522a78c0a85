/- Hist: what the document's functions compute, as the tool has printed them. -/
import Derived.Test.YtognnjhphnhbfaaHiP
import Derived.Test.YtognnjhphnhbfaaHx2
set_option linter.unusedVariables false
set_option linter.unusedSimpArgs false
namespace Go.Proofs.Ytognnjhphnhbfaa.Hi
open Go.RowKit Go.Proofs.Ytognnjhphnhbfaa.Base Go.Proofs.Ytognnjhphnhbfaa.PHistCounts Go.Proofs.YtognnjhphnhbfaaW.PrintWords Go.Proofs.YtognnjhphnhbfaaW.PrintMore

theorem clamp_f (a : Int) : hourglassref01_Clamp.f a = some (cl a) := by
  unfold hourglassref01_Clamp.f cl
  split
  · rfl
  · split <;> rfl

theorem index_go (n : Nat) : ∀ (x i k : Nat), x < 2 ^ n → i + 32 * n ≤ 100000 → 6 ≤ n → n ≤ 64 → n ≤ k + 6 → hourglassref35_Index.l0 (k + 1) (x : Int) (i : Int) = some ((i + ix x : Nat) : Int) := by
  induction n with
  | zero => intro x i k _ _ h; omega
  | succ n ih =>
    intro x i k hx hi h6 h64 hk
    by_cases hlt : x < 64
    · rw [hourglassref35_Index.l0, if_neg (by omega), ix_small x hlt]
      congr 1
      unfold wrap64
      omega
    · by_cases hn : n < 6
      · have : n = 5 := by omega
        subst this
        omega
      · obtain ⟨k', rfl⟩ : ∃ k', k = k' + 1 := ⟨k - 1, by omega⟩
        have h1 : wrap64 (Int.tdiv (x : Int) 2) = ((x / 2 : Nat) : Int) := by
          rw [Int.tdiv_eq_ediv_of_nonneg (by omega)]
          have : x < 2 ^ 64 := Nat.lt_of_lt_of_le hx (Nat.pow_le_pow_right (by decide) h64)
          unfold wrap64
          omega
        have h2 : wrap64 ((i : Int) + 32) = ((i + 32 : Nat) : Int) := by unfold wrap64; omega
        rw [hourglassref35_Index.l0, if_pos (by omega), h1, h2, ih (x / 2) (i + 32) k' (by rw [Nat.pow_succ] at hx; omega) (by omega) (by omega) (by omega) (by omega), ix_half x (by omega) (Nat.lt_of_lt_of_le hx (Nat.pow_le_pow_right (by decide) h64))]
        congr 1
        omega


theorem index_f (v : Int) (k : Nat) (hk : 60 ≤ k) : hourglassref35_Index.f k v = some (idx v) := by
  have hb := cl_bounds v
  obtain ⟨c, hc⟩ : ∃ c : Nat, cl v = c := ⟨(cl v).toNat, by omega⟩
  obtain ⟨k', rfl⟩ : ∃ k', k = k' + 1 := ⟨k - 1, by omega⟩
  unfold hourglassref35_Index.f
  rw [clamp_f, Option.bind_some, hc]
  have := index_go 51 c 0 k' (by omega) (by omega) (by omega) (by omega) (by omega)
  rw [Nat.zero_add] at this
  have e : idx v = ((ix c : Nat) : Int) := by unfold idx; rw [hc]; rfl
  rw [e]
  exact this

theorem low_go (n : Nat) : ∀ (x t k : Nat), x < 32 * n + 64 → x ≤ 2000 → lo x * t ≤ 1125899906842624 → (t = 1 ∨ 32 ≤ x) → n ≤ k → hourglassref35_Low.l0 (k + 1) (x : Int) (t : Int) = some ((lo x * t : Nat) : Int) := by
  induction n with
  | zero =>
    intro x t k hx hx2 hL _ hk
    rw [hourglassref35_Low.l0, if_neg (by omega), lo_small x (by omega)] at *
    congr 1
    have : (x : Int) * (t : Int) = ((x * t : Nat) : Int) := by simp
    rw [this]
    unfold wrap64
    omega
  | succ n ih =>
    intro x t k hx hx2 hL ht hk
    by_cases hlt : x < 64
    · rw [hourglassref35_Low.l0, if_neg (by omega), lo_small x (by omega)] at *
      congr 1
      have : (x : Int) * (t : Int) = ((x * t : Nat) : Int) := by simp
      rw [this]
      unfold wrap64
      omega
    · obtain ⟨k', rfl⟩ : ∃ k', k = k' + 1 := ⟨k - 1, by omega⟩
      have hlx : 1 ≤ lo x := by
        have := lo_mono (show 1 ≤ x by omega)
        rw [lo_small 1 (by decide)] at this
        exact this
      have htl : t ≤ 1125899906842624 := by
        have h3 : 1 * t ≤ lo x * t := Nat.mul_le_mul_right _ hlx
        omega
      have hw1 : wrap64 ((x : Int) - 32) = ((x - 32 : Nat) : Int) := by unfold wrap64; omega
      have hw2 : wrap64 ((t : Int) * 2) = ((t * 2 : Nat) : Int) := by unfold wrap64; omega
      have he : lo (x - 32) * (t * 2) = lo x * t := by
        rw [lo_step x (by omega), Nat.mul_comm t 2, ← Nat.mul_assoc, Nat.mul_comm _ 2]
      rw [hourglassref35_Low.l0, if_pos (by omega), hw1, hw2, ih (x - 32) (t * 2) k' (by omega) (by omega) (by rw [he]; exact hL) (.inr (by omega)) (by omega), he]

theorem low_f (i : Int) (k : Nat) (hk : 60 ≤ k) : hourglassref35_Low.f k i = some (low i) := by
  obtain ⟨k', rfl⟩ : ∃ k', k = k' + 2 := ⟨k - 2, by omega⟩
  unfold hourglassref35_Low.f low
  by_cases h0 : i < 0
  · rw [if_pos h0, if_pos h0, hourglassref35_Low.j0, if_pos rfl]
  · rw [if_neg h0, if_neg h0, hourglassref35_Low.j0]
    by_cases h1 : 1473 ≤ i
    · rw [if_pos (by simp; omega), if_pos h1]
    · rw [if_neg (by simp; omega), if_neg h1]
      obtain ⟨n, rfl⟩ : ∃ n : Nat, i = n := ⟨i.toNat, by omega⟩
      have hL := lo_bd (i := n) (by omega)
      have := low_go 45 n 1 k' (by omega) (by omega) (by omega) (.inl rfl) (by omega)
      rw [Nat.mul_one] at this
      exact this

theorem high_f (i : Int) (k : Nat) (hk : 61 ≤ k) : hourglassref35_High.f k i = some (high i) := by
  obtain ⟨k', rfl⟩ : ∃ k', k = k' + 1 := ⟨k - 1, by omega⟩
  unfold hourglassref35_High.f high
  by_cases h0 : i < 0
  · rw [if_pos h0, if_pos h0, hourglassref35_High.j0, if_pos rfl]
  · rw [if_neg h0, if_neg h0, hourglassref35_High.j0]
    by_cases h1 : 1473 ≤ i
    · rw [if_pos (by simp; omega), if_pos h1]
    · rw [if_neg (by simp; omega), if_neg h1]
      obtain ⟨n, rfl⟩ : ∃ n : Nat, i = n := ⟨i.toNat, by omega⟩
      have hn : (n : Int).toNat = n := rfl
      rw [hn]
      unfold hi
      by_cases h2 : n = 1472
      · rw [if_pos (by omega), if_pos h2]
        rfl
      · have hw : wrap64 ((n : Int) + 1) = ((n + 1 : Nat) : Int) := by unfold wrap64; omega
        rw [if_neg (by omega), if_neg h2, hw, low_f _ k' (by omega), low_in (by omega) (by omega)]
        have h3 := lo_up n
        rw [← lo_succ] at h3
        have h4 := lo_bd (i := n + 1) (by omega)
        have hn2 : (((n + 1 : Nat) : Int)).toNat = n + 1 := rfl
        rw [hn2]
        simp only [Option.bind_some]
        congr 1
        unfold wrap64
        omega

theorem rd_eq {xs : List Int} {i : Nat} {x : Int} (h : xs[i]? = some x) : rd xs (i : Int) = x := by
  unfold rd
  simp [h]

theorem count_go (r : List Int) (hr : r.length ≤ 1000) (i : Int) : ∀ (j m c k : Nat), m + j = r.length → c ≤ m → j + 60 ≤ k →
    hourglassref35_Count.l0 (k + 1) r i (c : Int) (m : Int) = some ((c + ((r.drop m).map idx).count i : Nat) : Int)
  | 0, m, c, k, hm, hc, hk => by
    rw [hourglassref35_Count.l0, if_neg (by omega), List.drop_eq_nil_of_le (by omega)]
    simp
  | j + 1, m, c, k, hm, hc, hk => by
    have hlt : m < r.length := by omega
    have hx : r[m]? = some r[m] := List.getElem?_eq_getElem hlt
    obtain ⟨k', rfl⟩ : ∃ k', k = k' + 1 := ⟨k - 1, by omega⟩
    have hw1 : wrap64 ((m : Int) + 1) = ((m + 1 : Nat) : Int) := by unfold wrap64; omega
    have hw2 : wrap64 ((c : Int) + 1) = ((c + 1 : Nat) : Int) := by unfold wrap64; omega
    rw [hourglassref35_Count.l0, if_pos (by omega), if_pos (by omega), rd_eq hx, index_f _ _ (by omega), hw1, hw2]
    simp only [Option.bind_some]
    rw [List.drop_eq_getElem_cons hlt, List.map_cons, List.count_cons]
    by_cases he : idx r[m] = i
    · rw [if_pos he]
      rw [count_go r hr i j (m + 1) (c + 1) k' (by omega) (by omega) (by omega)]
      have hb : (idx r[m] == i) = true := by simp [he]
      rw [hb]
      congr 2
      simp
      omega
    · rw [if_neg he, count_go r hr i j (m + 1) c k' (by omega) (by omega) (by omega)]
      have hb : (idx r[m] == i) = false := by simp [he]
      rw [hb]
      congr 2


theorem count_f (r : List Int) (hr : r.length ≤ 1000) (i : Int) (k : Nat) (hk : 1100 ≤ k) : hourglassref35_Count.f k r i = some (((r.map idx).count i : Nat) : Int) := by
  obtain ⟨k', rfl⟩ : ∃ k', k = k' + 1 := ⟨k - 1, by omega⟩
  have := count_go r hr i r.length 0 0 k' (by omega) (by omega) (by omega)
  rw [List.drop_zero, Nat.zero_add] at this
  exact this

/-- A row of the document's. -/
def rowR (is : List Int) (i : Int) : S54 := ⟨low i, high i, (is.count i : Nat)⟩

/-- What stood ahead. -/
def prev (r : List Int) : Nat → Option Int
  | 0 => none
  | m + 1 => (r[m]?).map idx

theorem rows_go (r : List Int) (hr : r.length ≤ 1000) : ∀ (j m k : Nat) (acc : List S54), m + j = r.length → acc.length ≤ m → 2 * j + 1200 ≤ k →
    hourglassref35_Rows.l0 (k + 1) r acc (m : Int) = some (acc ++ (ddF (prev r m) ((r.drop m).map idx)).map (rowR (r.map idx)))
  | 0, m, k, acc, hm, ha, hk => by
    rw [hourglassref35_Rows.l0, if_neg (by omega), List.drop_eq_nil_of_le (by omega)]
    simp [ddF]
  | j + 1, m, k, acc, hm, ha, hk => by
    have hlt : m < r.length := by omega
    have hx : r[m]? = some r[m] := List.getElem?_eq_getElem hlt
    obtain ⟨k', rfl⟩ : ∃ k', k = k' + 2 := ⟨k - 2, by omega⟩
    have hw1 : wrap64 ((m : Int) + 1) = ((m + 1 : Nat) : Int) := by unfold wrap64; omega
    have hp : prev r (m + 1) = some (idx r[m]) := by show (r[m]?).map idx = _; rw [hx]; rfl
    have hj1 : ∀ b : Bool, (b = true ↔ prev r m = some (idx r[m])) → hourglassref35_Rows.j1 (k' + 2) r acc (m : Int) (idx r[m]) b = some (acc ++ (ddF (prev r m) ((r.drop m).map idx)).map (rowR (r.map idx))) := fun b hb => by
      rw [List.drop_eq_getElem_cons hlt, List.map_cons, hourglassref35_Rows.j1, hw1]
      unfold ddF
      by_cases hbt : b = true
      · rw [if_pos hbt, if_pos (hb.1 hbt), rows_go r hr j (m + 1) k' acc (by omega) (by omega) (by omega), hp]
      · rw [if_neg hbt, if_neg (fun h => hbt (hb.2 h)), low_f _ _ (by omega), high_f _ _ (by omega), count_f r hr _ _ (by omega)]
        simp only [Option.bind_some]
        rw [if_pos (by omega), rows_go r hr j (m + 1) k' _ (by omega) (by simp; omega) (by omega), hp]
        simp [rowR]
    rw [hourglassref35_Rows.l0, if_pos (by omega), if_pos (by omega), rd_eq hx, index_f _ _ (by omega)]
    simp only [Option.bind_some]
    cases m with
    | zero =>
      rw [if_neg (by omega)]
      exact hj1 false (by simp [prev])
    | succ m =>
      have hx2 : r[m]? = some (r[m]'(by omega)) := List.getElem?_eq_getElem (by omega)
      have hw2 : wrap64 (((m + 1 : Nat) : Int) - 1) = (m : Int) := by unfold wrap64; omega
      rw [if_pos (by omega), hw2, if_pos (by omega), if_pos (by omega), rd_eq hx2, index_f _ _ (by omega)]
      simp only [Option.bind_some]
      refine hj1 _ ?_
      show _ ↔ (r[m]?).map idx = _
      rw [hx2]
      simp

theorem rows_f (r : List Int) (hr : r.length ≤ 1000) (hs : (r.map idx).Pairwise (· ≤ ·)) : hourglassref35_Rows.f 4000 r = some ((keysM (r.map idx)).map (rowR (r.map idx))) := by
  have := rows_go r hr r.length 0 3999 [] (by omega) (by simp) (by omega)
  rw [List.drop_zero, List.nil_append, show prev r 0 = none from rfl, dd_keys hs] at this
  exact this

theorem place_f (n : Nat) (hn : n ≤ 1000) (p : Int) (k : Nat) (hk : 10 ≤ k) : hourglassref35_Place.f k (n : Int) p = some (kOf n p) := by
  obtain ⟨k', rfl⟩ : ∃ k', k = k' + 2 := ⟨k - 2, by omega⟩
  have key : ∀ q : Int, 0 ≤ q → q ≤ 1000 → hourglassref35_Place.j1 (k' + 1) (n : Int) q = some (mx (((n : Int) * q + 999) / 1000) 1) := fun q h0 h1 => by
    rw [hourglassref35_Place.j1]
    have h3 : (n : Int) * q ≤ 1000 * 1000 := Int.mul_le_mul (by omega) h1 h0 (by omega)
    have h2 : 0 ≤ (n : Int) * q := Int.mul_nonneg (by omega) h0
    generalize (n : Int) * q = x at *
    have e1 : wrap64 x = x := by unfold wrap64; omega
    have e2 : Int.tmod x 1000 = x % 1000 := Int.tmod_eq_emod_of_nonneg h2
    have e3 : Int.tdiv x 1000 = x / 1000 := Int.tdiv_eq_ediv_of_nonneg h2
    have e4 : wrap64 (x / 1000) = x / 1000 := by unfold wrap64; omega
    have e5 : wrap64 (x / 1000 + 1) = x / 1000 + 1 := by unfold wrap64; omega
    rw [e1, e2, e3, e4, e5]
    unfold mx
    split <;> split <;> split <;> (congr 1 <;> omega)
  unfold hourglassref35_Place.f kOf
  have h1 : 0 ≤ mn (mx p 0) 1000 ∧ mn (mx p 0) 1000 ≤ 1000 := by unfold mn mx; split <;> (try split) <;> omega
  by_cases h0 : p < 0
  · have e : mn (mx p 0) 1000 = 0 := by unfold mn mx; split <;> (try split) <;> omega
    rw [if_pos h0, hourglassref35_Place.j0, if_neg (by omega), key 0 (by omega) (by omega), e]
  · rw [if_neg h0, hourglassref35_Place.j0]
    by_cases h2 : p > 1000
    · have e : mn (mx p 0) 1000 = 1000 := by unfold mn mx; split <;> (try split) <;> omega
      rw [if_pos h2, key 1000 (by omega) (by omega), e]
    · have e : mn (mx p 0) 1000 = p := by unfold mn mx; split <;> (try split) <;> omega
      rw [if_neg h2, key p (by omega) (by omega), e]

/-- The document's quantile is the histogram's. -/
theorem quant_f (r : List Int) (hr : r.length ≤ 1000) (hs : (r.map idx).Pairwise (· ≤ ·)) (p : Int) : hourglassref35_Quantile.f 4000 r p = some ((quantM (r.map idx) p).1, (quantM (r.map idx) p).2) := by
  unfold hourglassref35_Quantile.f
  by_cases h0 : r.length = 0
  · rw [if_pos (by omega)]
    unfold quantM
    rw [if_pos (by rw [List.length_map]; exact h0)]
  · have hk := kOf_bd r.length (by omega) hr p
    obtain ⟨x, hx, hq⟩ := quant_sorted hs (by rw [List.length_map]; omega) (by rw [List.length_map]; exact hr) p
    rw [List.length_map] at hx
    rw [List.getElem?_map] at hx
    obtain ⟨v, hv, rfl⟩ := Option.map_eq_some_iff.1 hx
    have hw : wrap64 (kOf r.length p - 1) = (((kOf r.length p - 1).toNat : Nat) : Int) := by unfold wrap64; omega
    rw [if_neg (by omega), place_f _ hr _ _ (by omega)]
    simp only [Option.bind_some]
    rw [hw, if_pos (by omega), if_pos (by omega), rd_eq hv, index_f _ _ (by omega), hq]
    simp only [Option.bind_some]
    rw [low_f _ _ (by omega)]
    rfl

/-- The same rows. -/
theorem same_go (l0 : List S44) (l1 : List S54) (h : l0.map (fun x => (x.f0, x.f1, x.f2)) = l1.map (fun x => (x.f0, x.f1, x.f2))) (hl : l0.length ≤ 2000) : ∀ (j m : Nat), m + j = l0.length → hourglasslaw35_rows.l0 (j + 1) l0 l1 (m : Int) = some true
  | 0, m, hm => by rw [hourglasslaw35_rows.l0, if_neg (by omega)]
  | j + 1, m, hm => by
    have hlen : l0.length = l1.length := by have := congrArg List.length h; simpa using this
    have hlt : m < l0.length := by omega
    have hw1 : wrap64 ((m : Int) + 1) = ((m + 1 : Nat) : Int) := by unfold wrap64; omega
    have hx : l0[m]? = some l0[m] := List.getElem?_eq_getElem hlt
    have hy : l1[m]? = some (l1[m]'(by omega)) := List.getElem?_eq_getElem (by omega)
    have e0 : rd_T44 l0 (m : Int) = l0[m] := by unfold rd_T44; simp [hx]
    have e1 : rd_T54 l1 (m : Int) = l1[m]'(by omega) := by unfold rd_T54; simp [hy]
    have he := congrArg (fun l => l[m]?) h
    simp only [List.getElem?_map, hx, hy, Option.map_some, Option.some.injEq, Prod.mk.injEq] at he
    rw [hourglasslaw35_rows.l0, if_pos (by omega), if_pos (by omega), if_pos (by omega), e0, e1, if_pos he.1, if_pos he.2.1, if_pos he.2.2, hw1]
    exact same_go l0 l1 h hl j (m + 1) (by omega)

theorem same_f (l0 : List S44) (l1 : List S54) (h : l0.map (fun x => (x.f0, x.f1, x.f2)) = l1.map (fun x => (x.f0, x.f1, x.f2))) (hl : l0.length ≤ 2000) : hourglasslaw35_rows.f (l0.length + 1) l0 l1 = some true := by
  have hlen : l0.length = l1.length := by have := congrArg List.length h; simpa using this
  unfold hourglasslaw35_rows.f
  rw [if_pos (by omega)]
  exact same_go l0 l1 h hl l0.length 0 (by omega)

end Go.Proofs.Ytognnjhphnhbfaa.Hi

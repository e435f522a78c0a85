/- Turns by plain lists: whose turn it is, and what each place has. No program, no memory. -/
import Derived.Test.YtpophcmdhpechaaBase
set_option linter.unusedVariables false
set_option linter.unusedSimpArgs false
namespace Go.Proofs.Ytpophcmdhpechaa.Tur
open Go.RowKit Go.Proofs.Ytpophcmdhpechaa.Base Go.Proofs.YtpophcmdhpechaaW.PrintWords Go.Proofs.YtpophcmdhpechaaW.PrintMore

/-- The sum of the first k elements. -/
def sumK (f : Nat → Int) : Nat → Int
  | 0 => 0
  | k + 1 => sumK f k + f k

theorem sumK_congr {f g : Nat → Int} : ∀ {k : Nat}, (∀ i, i < k → f i = g i) → sumK f k = sumK g k
  | 0, _ => rfl
  | k + 1, h => by rw [sumK, sumK, sumK_congr (fun i hi => h i (by omega)), h k (by omega)]
theorem sumK_add (f g : Nat → Int) : ∀ k, sumK (fun i => f i + g i) k = sumK f k + sumK g k
  | 0 => rfl
  | k + 1 => by simp only [sumK]; rw [sumK_add f g k]; omega
theorem sumK_sub (f g : Nat → Int) : ∀ k, sumK (fun i => f i - g i) k = sumK f k - sumK g k
  | 0 => rfl
  | k + 1 => by simp only [sumK]; rw [sumK_sub f g k]; omega
theorem sumK_mul (c : Int) (f : Nat → Int) : ∀ k, sumK (fun i => c * f i) k = c * sumK f k
  | 0 => by simp [sumK]
  | k + 1 => by simp only [sumK]; rw [sumK_mul c f k, Int.mul_add]
theorem sumK_nonneg {f : Nat → Int} : ∀ {k : Nat}, (∀ i, i < k → 0 ≤ f i) → 0 ≤ sumK f k
  | 0, _ => Int.le_refl _
  | k + 1, h => by have := sumK_nonneg (k := k) (fun i hi => h i (by omega)); have := h k (by omega); simp only [sumK]; omega
theorem sumK_le {f : Nat → Int} (c : Int) : ∀ {k : Nat}, (∀ i, i < k → f i ≤ c) → sumK f k ≤ c * k
  | 0, _ => by simp [sumK]
  | k + 1, h => by
    have h1 := sumK_le c (k := k) (fun i hi => h i (by omega)); have h2 := h k (by omega)
    have e : c * ((k + 1 : Nat) : Int) = c * k + c := by rw [Int.natCast_add, Int.mul_add]; simp
    simp only [sumK]; rw [e]; omega
/-- If all are at or below nothing, so is the sum. -/
theorem sumK_nonpos {f : Nat → Int} : ∀ {k : Nat}, (∀ i, i < k → f i ≤ 0) → sumK f k ≤ 0
  | 0, _ => Int.le_refl _
  | k + 1, h => by have := sumK_nonpos (k := k) (fun i hi => h i (by omega)); have := h k (by omega); simp only [sumK]; omega
/-- Numbers that are nowhere above others and have their sum are these. -/
theorem sumK_eq {f g : Nat → Int} : ∀ {k : Nat}, (∀ i, i < k → f i ≤ g i) → sumK f k = sumK g k → ∀ i, i < k → f i = g i
  | 0, _, _, i, hi => by omega
  | k + 1, h, he, i, hi => by
    have h1 : sumK f k ≤ sumK g k := by
      have := sumK_nonneg (f := fun i => g i - f i) (k := k) (fun i hi => by have := h i (by omega); show 0 ≤ g i - f i; omega)
      rw [sumK_sub] at this; omega
    have h2 := h k (by omega)
    simp only [sumK] at he
    by_cases c : i = k
    · subst c; omega
    · exact sumK_eq (k := k) (fun i hi => h i (by omega)) (by omega) i (by omega)

/-- The place of the greatest of the first k, the first of these. -/
def best (f : Nat → Int) : Nat → Nat
  | 0 => 0
  | k + 1 => if f (best f k) < f k then k else best f k

theorem best_lt (f : Nat → Int) : ∀ k, 0 < k → best f k < k
  | 0, h => by omega
  | k + 1, _ => by
    unfold best
    split
    · omega
    · by_cases c : k = 0
      · subst c; simp [best]
      · have := best_lt f k (by omega); omega
theorem best_le (f : Nat → Int) : ∀ k, best f k ≤ k
  | 0 => Nat.le_refl _
  | k + 1 => by
    have := best_le f k
    unfold best
    split <;> omega
theorem best_max (f : Nat → Int) : ∀ k i, i < k → f i ≤ f (best f k)
  | 0, i, h => by omega
  | k + 1, i, h => by
    unfold best
    by_cases c : i = k
    · subst c; split <;> omega
    · have := best_max f k i (by omega)
      split <;> omega
theorem best_congr {f g : Nat → Int} : ∀ {k : Nat}, (∀ i, i ≤ k → f i = g i) → best f k = best g k
  | 0, _ => rfl
  | k + 1, h => by
    have h1 := best_congr (f := f) (g := g) (k := k) (fun i hi => h i (by omega))
    unfold best
    rw [h1, h k (by omega), h (best g k) (by have := best_le g k; omega)]

/-- What places have, with their weights added. -/
def plus (ws hv : List Int) (i : Nat) : Int := rd hv i + rd ws i

/-- Whose turn it is. -/
def nxt (ws hv : List Int) : Nat := best (plus ws hv) ws.length

/-- The cycle. -/
def cyc (ws : List Int) : Int := sumK (fun i => rd ws i) ws.length

/-- The list with the first k places' weights added. -/
def mix (ws hv : List Int) : Nat → List Int
  | 0 => hv
  | k + 1 => (mix ws hv k).set k (rd hv k + rd ws k)

theorem mix_len (ws hv : List Int) : ∀ k, (mix ws hv k).length = hv.length
  | 0 => rfl
  | k + 1 => by rw [mix, List.length_set, mix_len ws hv k]

theorem rd_set_eq (xs : List Int) (i : Nat) (x : Int) (h : i < xs.length) : rd (xs.set i x) (i : Int) = x := by
  unfold rd; rw [Int.toNat_natCast, List.getD_eq_getElem?_getD, List.getElem?_set_self h]; rfl
theorem rd_set_ne (xs : List Int) (i j : Nat) (x : Int) (h : i ≠ j) : rd (xs.set i x) (j : Int) = rd xs j := by
  unfold rd; rw [Int.toNat_natCast, List.getD_eq_getElem?_getD, List.getElem?_set_ne h, ← List.getD_eq_getElem?_getD]

theorem mix_rd (ws hv : List Int) : ∀ (k j : Nat), k ≤ hv.length → rd (mix ws hv k) (j : Int) = if j < k then plus ws hv j else rd hv j
  | 0, j, _ => by simp [mix]
  | k + 1, j, h => by
    rw [mix]
    by_cases c : j = k
    · subst c
      rw [rd_set_eq _ _ _ (by rw [mix_len]; omega), if_pos (by omega)]; rfl
    · rw [rd_set_ne _ _ _ _ (fun e => c e.symm), mix_rd ws hv k j (by omega)]
      by_cases c2 : j < k
      · rw [if_pos c2, if_pos (by omega)]
      · rw [if_neg c2, if_neg (by omega)]

/-- What places have behind a turn. -/
def aft (ws hv : List Int) : List Int := (mix ws hv ws.length).set (nxt ws hv) (plus ws hv (nxt ws hv) - cyc ws)

theorem aft_len (ws hv : List Int) : (aft ws hv).length = hv.length := by rw [aft, List.length_set, mix_len]

theorem aft_rd (ws hv : List Int) (hl : hv.length = ws.length) (hn : 0 < ws.length) (j : Nat) (hj : j < ws.length) : rd (aft ws hv) (j : Int) = plus ws hv j - (if j = nxt ws hv then cyc ws else 0) := by
  unfold aft
  by_cases c : j = nxt ws hv
  · subst c
    rw [rd_set_eq _ _ _ (by rw [mix_len]; omega), if_pos rfl]
  · rw [rd_set_ne _ _ _ _ (fun e => c e.symm), mix_rd ws hv _ j (by omega), if_pos hj, if_neg c]; omega

theorem nxt_lt (ws hv : List Int) (hn : 0 < ws.length) : nxt ws hv < ws.length := best_lt _ _ hn

/-- Weights that may be. -/
structure Ok (ws : List Int) : Prop where
  n : ws.length ≤ 64
  b : ∀ i, i < ws.length → 0 ≤ rd ws (i : Int) ∧ rd ws (i : Int) ≤ 1000
  c : 0 < cyc ws

theorem Ok.pos {ws : List Int} (h : Ok ws) : 0 < ws.length := by
  rcases Nat.eq_zero_or_pos ws.length with h0 | h0
  · have := h.c; unfold cyc at this; rw [h0] at this; simp [sumK] at this
  · exact h0

theorem Ok.cyc_le {ws : List Int} (h : Ok ws) : cyc ws ≤ 64000 := by
  have h1 := sumK_le 1000 (f := fun i => rd ws i) (k := ws.length) (fun i hi => (h.b i hi).2)
  have := h.n
  unfold cyc; omega

/-- How often a turn was one's, among these. -/
def cnt (l : List Int) (i : Nat) : Int := ((l.filter fun x => x == (i : Int)).length : Nat)

theorem cnt_snoc (l : List Int) (x : Int) (i : Nat) : cnt (l ++ [x]) i = cnt l i + (if x = (i : Int) then 1 else 0) := by
  unfold cnt
  rw [List.filter_append, List.length_append]
  by_cases c : x = (i : Int)
  · simp [c]
  · simp [c]

/-- What holds behind the turns l: what each place has is its weight for each turn, but the cycle for each turn of its own; it is above the cycle, taken off; who has no weight has nothing or less. -/
structure Behind (ws hv l : List Int) : Prop where
  len : hv.length = ws.length
  has : ∀ i, i < ws.length → rd hv (i : Int) = l.length * rd ws (i : Int) - cyc ws * cnt l i
  low : ∀ i, i < ws.length → - cyc ws < rd hv (i : Int)
  sum : sumK (fun i => rd hv i) ws.length = 0
  all : ∀ x, x ∈ l → 0 ≤ x ∧ x < ws.length

theorem rd_rep (n : Nat) (i : Int) : rd (List.replicate n 0) i = 0 := by
  unfold rd; rw [List.getD_eq_getElem?_getD, List.getElem?_replicate]; split <;> rfl

theorem sumK_zero : ∀ k, sumK (fun _ => 0) k = 0
  | 0 => rfl
  | k + 1 => by simp only [sumK]; rw [sumK_zero k]; rfl

theorem Behind.start {ws : List Int} (h : Ok ws) : Behind ws (List.replicate ws.length 0) [] :=
  ⟨by simp, fun i hi => by rw [rd_rep]; simp [cnt], fun i hi => by rw [rd_rep]; have := h.c; omega, by
    rw [sumK_congr (g := fun _ => 0) (fun i _ => rd_rep _ _)]; exact sumK_zero _, fun x hx => by cases hx⟩

/-- The greatest has more than nothing, and a weight. -/
theorem Behind.top {ws hv l : List Int} (hb : Behind ws hv l) (h : Ok ws) : 0 < plus ws hv (nxt ws hv) ∧ 0 < rd ws (nxt ws hv : Nat) := by
  have hn := h.pos
  have hlt := nxt_lt ws hv hn
  have hs : sumK (plus ws hv) ws.length = cyc ws := by
    show sumK (fun i => rd hv i + rd ws i) ws.length = _
    rw [sumK_add, hb.sum, cyc]; omega
  have hp : 0 < plus ws hv (nxt ws hv) := by
    by_cases c : 0 < plus ws hv (nxt ws hv)
    · exact c
    · have := sumK_nonpos (f := plus ws hv) (k := ws.length) (fun i hi => by have := best_max (plus ws hv) ws.length i hi; unfold nxt at c; omega)
      have := h.c
      omega
  refine ⟨hp, ?_⟩
  have hw := (h.b _ hlt).1
  rcases Int.lt_or_eq_of_le hw with h1 | h1
  · exact h1
  · exfalso
    have h2 := hb.has _ hlt
    rw [← h1] at h2
    have h3 : 0 ≤ cnt l (nxt ws hv) := by unfold cnt; omega
    have h4 := Int.mul_nonneg (Int.le_of_lt h.c) h3
    unfold plus at hp
    rw [← h1] at hp
    simp at h2
    omega

theorem Behind.next {ws hv l : List Int} (hb : Behind ws hv l) (h : Ok ws) : Behind ws (aft ws hv) (l ++ [((nxt ws hv : Nat) : Int)]) := by
  have hn := h.pos
  have hlt := nxt_lt ws hv hn
  have ht := hb.top h
  refine ⟨by rw [aft_len]; exact hb.len, fun i hi => ?_, fun i hi => ?_, ?_, fun x hx => ?_⟩
  · rw [aft_rd ws hv hb.len hn i hi, cnt_snoc, plus, hb.has i hi, List.length_append]
    have e : ((l.length + [((nxt ws hv : Nat) : Int)].length : Nat) : Int) * rd ws i = l.length * rd ws i + rd ws i := by
      rw [List.length_singleton, Int.natCast_add, Int.add_mul]; simp
    rw [e]
    by_cases c : i = nxt ws hv
    · rw [if_pos c, if_pos (by rw [c]), Int.mul_add]; omega
    · rw [if_neg c, if_neg (by omega), Int.mul_add]; omega
  · rw [aft_rd ws hv hb.len hn i hi]
    by_cases c : i = nxt ws hv
    · rw [if_pos c, c]; omega
    · rw [if_neg c]; have := hb.low i hi; have := (h.b i hi).1; unfold plus; omega
  · have e : sumK (fun i => rd (aft ws hv) i) ws.length = sumK (fun i => plus ws hv i - (if i = nxt ws hv then cyc ws else 0)) ws.length :=
      sumK_congr (fun i hi => aft_rd ws hv hb.len hn i hi)
    rw [e, sumK_sub]
    have e1 : sumK (plus ws hv) ws.length = cyc ws := by
      show sumK (fun i => rd hv i + rd ws i) ws.length = _
      rw [sumK_add, hb.sum, cyc]; omega
    have e2 : ∀ k, sumK (fun i => if i = nxt ws hv then cyc ws else 0) k = if nxt ws hv < k then cyc ws else 0 := by
      intro k
      induction k with
      | zero => simp [sumK]
      | succ k ih =>
        simp only [sumK]
        rw [ih]
        by_cases c1 : k = nxt ws hv
        · rw [if_pos c1, if_neg (by omega), if_pos (by omega)]; omega
        · rw [if_neg c1]
          by_cases c2 : nxt ws hv < k
          · rw [if_pos c2, if_pos (by omega)]; omega
          · rw [if_neg c2, if_neg (by omega)]; omega
    rw [e2, if_pos hlt]
    have : sumK (fun i => plus ws hv i) ws.length = cyc ws := e1
    rw [this]; omega
  · rcases List.mem_append.1 hx with h1 | h1
    · exact hb.all x h1
    · simp at h1; omega

/-- Behind a whole cycle each place had its turn as often as its weight says, and has nothing. -/
theorem sum_cnt {n : Nat} : ∀ (l : List Int), (∀ x, x ∈ l → 0 ≤ x ∧ x < n) → sumK (fun i => cnt l i) n = l.length := by
  intro l
  induction l with
  | nil => intro _; rw [sumK_congr (g := fun _ => 0) (fun i _ => by simp [cnt])]; exact sumK_zero n
  | cons x l ih =>
    intro hx
    have h1 := ih (fun y hy => hx y (List.mem_cons_of_mem _ hy))
    have h2 := hx x List.mem_cons_self
    have e : sumK (fun i => cnt (x :: l) i) n = sumK (fun i => cnt l i + (if i = x.toNat then 1 else 0)) n := by
      refine sumK_congr (fun i hi => ?_)
      unfold cnt
      rw [List.filter_cons]
      by_cases c : x = (i : Int)
      · rw [if_pos (by simpa using c), if_pos (by omega), List.length_cons]; omega
      · rw [if_neg (by simpa using c), if_neg (by omega)]; omega
    rw [e, sumK_add, h1]
    have e2 : ∀ k, sumK (fun i => if i = x.toNat then (1 : Int) else 0) k = if x.toNat < k then 1 else 0 := by
      intro k
      induction k with
      | zero => simp [sumK]
      | succ k ih =>
        simp only [sumK]
        rw [ih]
        by_cases c1 : k = x.toNat
        · rw [if_pos c1, if_neg (by omega), if_pos (by omega)]; omega
        · rw [if_neg c1]
          by_cases c2 : x.toNat < k
          · rw [if_pos c2, if_pos (by omega)]; omega
          · rw [if_neg c2, if_neg (by omega)]; omega
    rw [e2, if_pos (by omega), List.length_cons]; omega

theorem Behind.cycle {ws hv l : List Int} (hb : Behind ws hv l) (h : Ok ws) (hl : (l.length : Int) = cyc ws) : (∀ i, i < ws.length → cnt l i = rd ws (i : Int)) ∧ hv = List.replicate ws.length 0 := by
  have hc : ∀ i, i < ws.length → cnt l i ≤ rd ws (i : Int) := by
    intro i hi
    have h1 := hb.has i hi
    have h2 := hb.low i hi
    rw [hl, ← Int.mul_sub] at h1
    rw [h1] at h2
    have h3 := h.c
    by_cases c : cnt l i ≤ rd ws (i : Int)
    · exact c
    · exfalso
      have h4 : cyc ws * (rd ws (i : Int) - cnt l i) ≤ cyc ws * (-1) := Int.mul_le_mul_of_nonneg_left (by omega) (by omega)
      omega
  have he : ∀ i, i < ws.length → cnt l i = rd ws (i : Int) := sumK_eq hc (by rw [sum_cnt l hb.all, hl]; rfl)
  refine ⟨he, ?_⟩
  apply List.ext_getElem?
  intro j
  by_cases hj : j < ws.length
  · have h1 := hb.has j hj
    rw [he j hj, hl] at h1
    have h2 : rd hv (j : Int) = 0 := by rw [h1]; omega
    unfold rd at h2
    rw [Int.toNat_natCast, List.getD_eq_getElem?_getD] at h2
    have h3 : j < hv.length := by rw [hb.len]; exact hj
    rw [List.getElem?_eq_getElem h3] at h2 ⊢
    rw [List.getElem?_replicate, if_pos hj]
    simpa using h2
  · rw [List.getElem?_eq_none (by rw [hb.len]; omega), List.getElem?_eq_none (by simp; omega)]

end Go.Proofs.Ytpophcmdhpechaa.Tur

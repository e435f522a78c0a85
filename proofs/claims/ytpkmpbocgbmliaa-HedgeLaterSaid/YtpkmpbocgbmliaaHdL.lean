/- Hedge: the game's run, and that the document's game is it; in plain Lean. No condition. -/
import Derived.Test.YtpkmpbocgbmliaaHd
set_option linter.unusedVariables false
set_option linter.unusedSimpArgs false
namespace Go.Proofs.Ytpkmpbocgbmliaa.Hd
open Go.RowKit Go.Proofs.Ytpkmpbocgbmliaa.PHedgePlays Go.Proofs.YtpkmpbocgbmliaaW.PrintWords Go.Proofs.YtpkmpbocgbmliaaW.PrintMore

/-- The run. -/
def runM (K : Kst) : Nat → St → Option Res
  | 0, _ => none
  | n + 1, σ => match stepM K σ with
    | (some r, _) => some r
    | (none, σ') => runM K n σ'

/-- The answer that comes first. -/
def fst_ (σ : St) : Due := σ.out.getD (firstN σ.out σ.out.length) due0
/-- All others. -/
def rest_ (σ : St) : St := ⟨σ.sent, σ.next, σ.out.take (firstN σ.out σ.out.length) ++ σ.out.drop (firstN σ.out σ.out.length + 1)⟩
def hedges (K : Kst) (σ : St) : Prop := σ.sent < K.most ∧ σ.next < (fst_ σ).t

theorem step_cases (K : Kst) (σ : St) :
    (stepM K σ = (none, sendM K σ σ.next) ∧ hedges K σ ∧ σ.next < K.dl) ∨
    (stepM K σ = (some (lateM K σ), σ) ∧ ((hedges K σ ∧ K.dl ≤ σ.next) ∨ (¬ hedges K σ ∧ K.dl ≤ (fst_ σ).t))) ∨
    (stepM K σ = (some ⟨(fst_ σ).code, (fst_ σ).t, σ.sent, (fst_ σ).who⟩, rest_ σ) ∧ ¬ hedges K σ ∧ (fst_ σ).t < K.dl ∧ (againB (fst_ σ).code = false ∨ (K.most ≤ σ.sent ∧ σ.out.length = 1))) ∨
    (stepM K σ = (none, sendM K (rest_ σ) (fst_ σ).t) ∧ ¬ hedges K σ ∧ (fst_ σ).t < K.dl ∧ againB (fst_ σ).code = true ∧ σ.sent < K.most) ∨
    (stepM K σ = (none, rest_ σ) ∧ ¬ hedges K σ ∧ (fst_ σ).t < K.dl ∧ againB (fst_ σ).code = true ∧ K.most ≤ σ.sent ∧ σ.out.length ≠ 1) := by
  by_cases h1 : hedges K σ
  · by_cases h2 : σ.next < K.dl
    · refine .inl ⟨?_, h1, h2⟩
      unfold stepM; rw [if_pos (by exact h1), if_pos h2]
    · refine .inr (.inl ⟨?_, .inl ⟨h1, by omega⟩⟩)
      unfold stepM; rw [if_pos (by exact h1), if_neg h2]
  · by_cases h2 : K.dl ≤ (fst_ σ).t
    · refine .inr (.inl ⟨?_, .inr ⟨h1, h2⟩⟩)
      unfold stepM; rw [if_neg (by exact h1), if_pos (by exact h2)]
    · by_cases h3 : againB (fst_ σ).code = false ∨ (K.most ≤ σ.sent ∧ σ.out.length = 1)
      · refine .inr (.inr (.inl ⟨?_, h1, by omega, h3⟩))
        unfold stepM; rw [if_neg (by exact h1), if_neg (by exact h2), if_pos (by exact h3)]; rfl
      · have h4 : againB (fst_ σ).code = true := by
          cases hb : againB (fst_ σ).code with
          | true => rfl
          | false => exact absurd (.inl hb) h3
        by_cases h5 : σ.sent < K.most
        · refine .inr (.inr (.inr (.inl ⟨?_, h1, by omega, h4, h5⟩)))
          unfold stepM; rw [if_neg (by exact h1), if_neg (by exact h2), if_neg (by exact h3), if_pos h5]; rfl
        · refine .inr (.inr (.inr (.inr ⟨?_, h1, by omega, h4, by omega, fun e => h3 (.inr ⟨by omega, e⟩)⟩)))
          unfold stepM; rw [if_neg (by exact h1), if_neg (by exact h2), if_neg (by exact h3), if_neg h5]; rfl

theorem fst_get (σ : St) (h0 : 0 < σ.out.length) : σ.out[firstN σ.out σ.out.length]? = some (fst_ σ) := by
  have h := firstN_lt σ.out _ h0
  unfold fst_
  rw [List.getD_eq_getElem?_getD, List.getElem?_eq_getElem h]
  rfl

theorem rest_len (σ : St) (h0 : 0 < σ.out.length) : (rest_ σ).out.length = σ.out.length - 1 := by
  have h := firstN_lt σ.out _ h0
  simp only [rest_, List.length_append, List.length_take, List.length_drop]
  omega

/-- What is left to do. -/
def mu (K : Kst) (σ : St) : Nat := 2 * (K.most - σ.sent).toNat + σ.out.length

theorem step_ok {K : Kst} {σ : St} (hO : OkS K σ) (h0 : 0 < σ.out.length) (hn : (stepM K σ).1 = none) :
    OkS K (stepM K σ).2 ∧ 0 < (stepM K σ).2.out.length ∧ mu K (stepM K σ).2 < mu K σ := by
  obtain ⟨a, b, c, d⟩ := hO
  have hl := rest_len σ h0
  rcases step_cases K σ with ⟨h, h1, h2⟩ | ⟨h, _⟩ | ⟨h, _⟩ | ⟨h, h1, h2, h3, h4⟩ | ⟨h, h1, h2, h3, h4, h5⟩
  · rw [h]
    have := h1.1
    refine ⟨⟨a, ?_, ?_, ?_⟩, ?_, ?_⟩ <;> simp [sendM, mu] <;> omega
  · rw [h] at hn; cases hn
  · rw [h] at hn; cases hn
  · rw [h]
    have e1 : (rest_ σ).sent = σ.sent := rfl
    refine ⟨⟨a, ?_, ?_, ?_⟩, ?_, ?_⟩ <;> simp [sendM, mu, hl, e1] <;> omega
  · rw [h]
    have e1 : (rest_ σ).sent = σ.sent := rfl
    refine ⟨⟨a, ?_, ?_, ?_⟩, ?_, ?_⟩ <;> simp [mu, hl, e1] <;> omega

theorem run_some {K : Kst} : ∀ (n : Nat) {σ : St}, OkS K σ → 0 < σ.out.length → mu K σ < n → ∃ r, runM K n σ = some r
  | 0, σ, _, _, h => absurd h (Nat.not_lt_zero _)
  | n + 1, σ, hO, h0, h => by
    unfold runM
    cases hs : stepM K σ with
    | mk o σ' =>
      cases o with
      | some r => exact ⟨r, rfl⟩
      | none =>
        have := step_ok hO h0 (by rw [hs])
        rw [hs] at this
        exact run_some n this.1 this.2.1 (by have := this.2.2; simp at this; omega)

/-- The start: the first attempt was sent. -/
def start (K : Kst) : St := sendM K ⟨0, 0, []⟩ 0
theorem start_ok {K : Kst} (h1 : 1 ≤ K.most) (h5 : K.most ≤ 5) : OkS K (start K) ∧ 0 < (start K).out.length ∧ mu K (start K) < 12 := by
  refine ⟨⟨h5, ?_, ?_, ?_⟩, ?_, ?_⟩ <;> simp [start, sendM, mu] <;> omega

def mostOf (a : Int) : Int := if a < 1 then 1 else if 5 < a then 5 else a
def kOf (most delay dl : Int) (l : List S36) : Kst := ⟨mostOf most, cl delay, cl dl, l⟩
theorem mostOf_bd (a : Int) : 1 ≤ mostOf a ∧ mostOf a ≤ 5 := by unfold mostOf; split <;> (try split) <;> omega
/-- The result. -/
def playM (most delay dl : Int) (l : List S36) : Res :=
  if cl dl = 0 then ⟨4, 0, 0, 0⟩ else (runM (kOf most delay dl l) 12 (start (kOf most delay dl l))).getD ⟨0, 0, 0, 0⟩
theorem playM_run (most delay dl : Int) (l : List S36) (h : cl dl ≠ 0) : runM (kOf most delay dl l) 12 (start (kOf most delay dl l)) = some (playM most delay dl l) := by
  obtain ⟨hO, h0, hm⟩ := start_ok (K := kOf most delay dl l) (mostOf_bd most).1 (mostOf_bd most).2
  obtain ⟨r, hr⟩ := run_some 12 hO h0 hm
  unfold playM
  rw [if_neg h, hr]
  rfl

/-! ### The document's -/
theorem clamp_f (a : Int) : hourglassref01_Clamp.f a = some (cl a) := by
  unfold hourglassref01_Clamp.f cl
  split
  · rfl
  · split <;> rfl

theorem attempts_f (a : Int) : hourglassref39_Attempts.f a = some (mostOf a) := by
  unfold hourglassref39_Attempts.f mostOf
  split
  · rfl
  · split <;> rfl

theorem add_f (a b : Int) : hourglassref01_Add.f a b = some (addT a b) := by
  unfold hourglassref01_Add.f
  rw [clamp_f, clamp_f]
  have h1 := cl_bd a
  have h2 := cl_bd b
  have hw : wrap64 (1125899906842624 - cl b) = 1125899906842624 - cl b := by unfold wrap64; omega
  have hw2 : wrap64 (cl a + cl b) = cl a + cl b := by unfold wrap64; omega
  simp only [Option.bind_some, hw, hw2, gt_iff_lt]
  unfold addT
  generalize cl a = x at *
  generalize cl b = y at *
  unfold cl
  split
  · rw [if_neg (by omega)]
    congr 1
    split <;> omega
  · rw [if_neg (by omega), if_neg (by omega)]

theorem clean_f (c : Int) : hourglassref05_Clean.f c = some (clean c) := by
  unfold hourglassref05_Clean.f hourglassref05_Right.f clean
  by_cases h : c ≥ 0
  · rw [if_pos h]
    simp only [Option.bind_some, decide_eq_true_eq]
    by_cases h2 : c ≤ 16
    · rw [if_pos h2, if_pos ⟨h, by omega⟩]
    · rw [if_neg h2, if_neg (by omega)]
  · rw [if_neg h, if_neg (by omega)]
    simp

theorem again_f (c : Int) : hourglassref39_again.f c = some (againB (clean c)) := by
  unfold hourglassref39_again.f againB
  rw [clean_f]
  simp only [Option.bind_some]
  by_cases h : clean c = 14
  · rw [if_pos h, h]; rfl
  · rw [if_neg h]
    congr 1
    by_cases h2 : clean c = 8
    · rw [h2]; rfl
    · rw [decide_eq_false (by omega)]
      simp [h2]

def m36 (x : S34) : S36 := ⟨x.f0, x.f1⟩
theorem rd_m (l : List S34) (i : Int) : rd_T36 (l.map m36) i = m36 (rd_T34 l i) := by
  unfold rd_T36 rd_T34
  rw [List.getD_eq_getElem?_getD, List.getD_eq_getElem?_getD, List.getElem?_map]
  cases l[i.toNat]? <;> rfl

theorem comes_f (l : List S34) (k t : Int) (h1 : 1 ≤ k) (h2 : k ≤ 100) : hourglassref39_Comes.f l k t = some (if k ≤ l.length ∧ 0 ≤ (rd_T34 l (k - 1)).f0 then addT t (rd_T34 l (k - 1)).f0 else -1) := by
  have hw : wrap64 (k - 1) = k - 1 := by unfold wrap64; omega
  unfold hourglassref39_Comes.f
  rw [hw]
  by_cases h : k > (l.length : Int)
  · rw [if_pos h, if_neg (by omega)]
  · rw [if_neg h, if_pos (by omega), if_pos (by omega)]
    by_cases h3 : (rd_T34 l (k - 1)).f0 < 0
    · rw [if_pos h3, if_neg (by omega)]
    · rw [if_neg h3, if_pos ⟨by omega, by omega⟩, add_f]
      rfl

/-- The answers that are still to come, by what the document keeps: when attempts were sent, and which have answered. -/
def outF (K : Kst) : Nat → List Int → List Bool → List Due
  | _, [], _ => []
  | _, _ :: _, [] => []
  | i, t :: ts, b :: bs => if b then outF K (i + 1) ts bs else dueOf K (i + 1 : Nat) t :: outF K (i + 1) ts bs

theorem outF_snoc (K : Kst) : ∀ (ts : List Int) (bs : List Bool) (i : Nat) (t : Int), ts.length = bs.length →
    outF K i (ts ++ [t]) (bs ++ [false]) = outF K i ts bs ++ [dueOf K (i + ts.length + 1 : Nat) t]
  | [], [], i, t, _ => by simp [outF]
  | [], _ :: _, _, _, h => by simp at h
  | _ :: _, [], _, _, h => by simp at h
  | x :: ts, b :: bs, i, t, h => by
    have ih := outF_snoc K ts bs (i + 1) t (by simpa using h)
    have e : i + 1 + ts.length + 1 = i + (x :: ts).length + 1 := by simp; omega
    rw [e] at ih
    simp only [List.cons_append, outF]
    cases b
    · simp only [Bool.false_eq_true, if_false]; rw [ih]; rfl
    · simp only [if_true]; rw [ih]

theorem outF_get (K : Kst) : ∀ (ts : List Int) (bs : List Bool) (i m : Nat) (d : Due), (outF K i ts bs)[m]? = some d →
    ∃ j t, ts[j]? = some t ∧ bs[j]? = some false ∧ d = dueOf K (i + j + 1 : Nat) t ∧ outF K i ts (bs.set j true) = (outF K i ts bs).take m ++ (outF K i ts bs).drop (m + 1)
  | [], _, i, m, d, h => by simp [outF] at h
  | _ :: _, [], i, m, d, h => by simp [outF] at h
  | x :: ts, b :: bs, i, m, d, h => by
    cases b with
    | true =>
      simp only [outF, if_true] at h
      obtain ⟨j, t, h1, h2, h3, h4⟩ := outF_get K ts bs (i + 1) m d h
      refine ⟨j + 1, t, by simpa using h1, by simpa using h2, by rw [h3]; congr 1; omega, ?_⟩
      simp only [List.set_cons_succ, outF, if_true]
      exact h4
    | false =>
      simp only [outF, Bool.false_eq_true, if_false] at h
      cases m with
      | zero =>
        simp at h
        refine ⟨0, x, rfl, rfl, by rw [← h]; rfl, ?_⟩
        simp [outF]
      | succ m =>
        obtain ⟨j, t, h1, h2, h3, h4⟩ := outF_get K ts bs (i + 1) m d (by simpa using h)
        refine ⟨j + 1, t, by simpa using h1, by simpa using h2, by rw [h3]; congr 1; omega, ?_⟩
        simp only [List.set_cons_succ, outF, Bool.false_eq_true, if_false]
        rw [h4]
        simp

/-- The nearest of some answers, ahead of a time. -/
def near (out : List Due) (p : Int × Int) : Int × Int := out.foldl (fun p d => if d.t < p.2 then (d.who, d.t) else p) p

theorem near_take (out : List Due) (dl : Int) : ∀ n, n + 1 ≤ out.length → near (out.take (n + 1)) (0, dl) = if (out.getD (firstN out (n + 1)) due0).t < dl then ((out.getD (firstN out (n + 1)) due0).who, (out.getD (firstN out (n + 1)) due0).t) else (0, dl)
  | 0, h => by
    have h1 : out.take 1 = [out[0]] := by
      cases out with
      | nil => simp at h
      | cons a l => simp
    have h2 : firstN out 1 = 0 := by simp [firstN]
    have h3 : out.getD 0 due0 = out[0] := by rw [List.getD_eq_getElem?_getD, List.getElem?_eq_getElem h]; rfl
    rw [h1, h2, h3]
    rfl
  | n + 1, h => by
    have ih := near_take out dl n (by omega)
    have h1 : out.take (n + 1 + 1) = out.take (n + 1) ++ [out[n + 1]] := (List.take_append_getElem h).symm
    have h3 : out.getD (n + 1) due0 = out[n + 1] := by rw [List.getD_eq_getElem?_getD, List.getElem?_eq_getElem h]; rfl
    unfold near at ih ⊢
    rw [h1, List.foldl_append, ih]
    have h2 : firstN out (n + 1 + 1) = if (out.getD (n + 1) due0).t < (out.getD (firstN out (n + 1)) due0).t then n + 1 else firstN out (n + 1) := rfl
    rw [h2, h3]
    obtain ⟨b, hb⟩ : ∃ b, b = out.getD (firstN out (n + 1)) due0 := ⟨_, rfl⟩
    rw [← hb]
    simp only [List.foldl_cons, List.foldl_nil]
    by_cases hx : out[n + 1].t < b.t
    · rw [if_pos hx, h3]
      by_cases hbd : b.t < dl
      · rw [if_pos hbd, if_pos hx, if_pos (by omega)]
      · rw [if_neg hbd]
    · rw [if_neg hx, ← hb]
      by_cases hbd : b.t < dl
      · rw [if_pos hbd, if_neg hx]
      · rw [if_neg hbd, if_neg (by show ¬ _ < dl; omega)]

theorem near_fst (σ : St) (dl : Int) (h0 : 0 < σ.out.length) : near σ.out (0, dl) = if (fst_ σ).t < dl then ((fst_ σ).who, (fst_ σ).t) else (0, dl) := by
  have h := near_take σ.out dl (σ.out.length - 1) (by omega)
  have e : σ.out.length - 1 + 1 = σ.out.length := by omega
  rw [e, List.take_length] at h
  exact h

theorem addT_cl (t d : Int) : addT t (cl d) = addT t d := by
  unfold addT
  rw [cl_in (a := cl d) (cl_bd d).1 (cl_bd d).2]

theorem rd_eq {xs : List Int} {i : Nat} {x : Int} (h : xs[i]? = some x) : rd xs (i : Int) = x := by
  unfold rd
  simp [h]

theorem rdOf_eq {xs : List Bool} {i : Nat} {x : Bool} (h : xs[i]? = some x) : rdOf false xs (i : Int) = x := by
  unfold rdOf
  simp [h]

section
variable {K : Kst} {l : List S34} {delay : Int}

def exitE (K : Kst) (l : List S34) (delay : Int) (k : Nat) (ts : List Int) (bs : List Bool) (op who when_ : Int) : Option (Int × Int × Int × Int) :=
  if (ts.length : Int) < K.most then hourglassref39_Play.j2 k K.most delay K.dl l ts bs op who when_ (addT (rd ts ((ts.length : Int) - 1)) delay) (decide (addT (rd ts ((ts.length : Int) - 1)) delay < when_))
  else hourglassref39_Play.j2 k K.most delay K.dl l ts bs op who when_ (addT (rd ts ((ts.length : Int) - 1)) delay) false

theorem dueOf_m (hl : K.l = l.map m36) (s t : Int) : dueOf K s t = if s ≤ l.length ∧ 0 ≤ (rd_T34 l (s - 1)).f0 then ⟨addT t (rd_T34 l (s - 1)).f0, s, clean (rd_T34 l (s - 1)).f1⟩ else ⟨1125899906842624, s, 0⟩ := by
  unfold dueOf
  rw [hl, rd_m, List.length_map]
  rfl

theorem scan (hl : K.l = l.map m36) (hd : K.dl ≤ 1125899906842624) (ts : List Int) (bs : List Bool) (hb : ts.length = bs.length) (h5 : ts.length ≤ 5) (h1 : 1 ≤ ts.length) (op : Int) (k : Nat) :
    ∀ (j : Nat) (who when_ : Int), j ≤ ts.length → when_ ≤ K.dl →
      hourglassref39_Play.l1 (k + 1 + j) K.most delay K.dl l ts bs op who when_ ((ts.length - j + 1 : Nat) : Int) = exitE K l delay k ts bs op (near (outF K (ts.length - j) (ts.drop (ts.length - j)) (bs.drop (ts.length - j))) (who, when_)).1 (near (outF K (ts.length - j) (ts.drop (ts.length - j)) (bs.drop (ts.length - j))) (who, when_)).2
  | 0, who, when_, _, _ => by
    have e1 : ts.drop ts.length = [] := List.drop_length
    have hw : wrap64 ((ts.length : Int) - 1) = (ts.length : Int) - 1 := by unfold wrap64; omega
    rw [Nat.sub_zero, e1, Nat.add_zero, hourglassref39_Play.l1, if_neg (by omega), hw, if_pos (by omega), if_pos (by omega), add_f]
    simp only [Option.bind_some, outF, near, List.foldl_nil]
    rfl
  | j + 1, who, when_, hj, hwn => by
    obtain ⟨i, hi⟩ : ∃ i, i = ts.length - (j + 1) := ⟨_, rfl⟩
    have hi1 : ts.length - j = i + 1 := by omega
    have hilt : i < ts.length := by omega
    have ih := fun a b h => scan hl hd ts bs hb h5 h1 op k j a b (by omega) h
    rw [hi1] at ih
    rw [← hi]
    have hcur : wrap64 (((i + 1 : Nat) : Int) - 1) = (i : Int) := by unfold wrap64; omega
    have hnx : wrap64 (((i + 1 : Nat) : Int) + 1) = ((i + 1 + 1 : Nat) : Int) := by unfold wrap64; omega
    have ht : ts[i]? = some ts[i] := List.getElem?_eq_getElem hilt
    have hbb : bs[i]? = some (bs[i]'(by omega)) := List.getElem?_eq_getElem (by omega)
    have hdt : ts.drop i = ts[i] :: ts.drop (i + 1) := List.drop_eq_getElem_cons hilt
    have hdb : bs.drop i = bs[i]'(by omega) :: bs.drop (i + 1) := List.drop_eq_getElem_cons (by omega)
    rw [hdt, hdb, show k + 1 + (j + 1) = (k + 1 + j) + 1 from by omega, hourglassref39_Play.l1, if_pos (by omega), hcur, hnx, if_pos (by omega), if_pos (by omega), rd_eq ht, comes_f l _ _ (by omega) (by omega)]
    simp only [Option.bind_some]
    rw [if_pos (by omega), rdOf_eq hbb]
    generalize ts[i] = t
    cases bs[i]'(by omega) with
    | true =>
      simp only [if_true, outF]
      exact ih who when_ hwn
    | false =>
      simp only [Bool.false_eq_true, if_false, outF]
      rw [dueOf_m hl]
      have hdw : ((((i + 1 : Nat) : Int) ≤ (l.length : Int)) ∧ 0 ≤ (rd_T34 l (((i + 1 : Nat) : Int) - 1)).f0) ∨ ¬ ((((i + 1 : Nat) : Int) ≤ (l.length : Int)) ∧ 0 ≤ (rd_T34 l (((i + 1 : Nat) : Int) - 1)).f0) := Classical.em _
      rcases hdw with h | h
      · rw [if_pos h, if_pos h]
        have hbd := addT_bd t (rd_T34 l (((i + 1 : Nat) : Int) - 1)).f0
        rw [if_pos (by omega)]
        by_cases hlt : addT t (rd_T34 l (((i + 1 : Nat) : Int) - 1)).f0 < when_
        · rw [if_pos hlt, ih _ _ (by omega)]
          simp only [near, List.foldl_cons, if_pos hlt]
        · rw [if_neg hlt, ih _ _ hwn]
          simp only [near, List.foldl_cons, if_neg hlt]
      · rw [if_neg h, if_neg h, if_neg (by omega), ih _ _ hwn]
        simp only [near, List.foldl_cons]
        rw [if_neg (by omega)]

theorem last_snoc (ts : List Int) (t : Int) : rd (ts ++ [t]) (((ts ++ [t]).length : Int) - 1) = t := by
  have h : (ts ++ [t])[ts.length]? = some t := by simp
  have h2 := rd_eq h
  have e : ((ts ++ [t]).length : Int) - 1 = (ts.length : Int) := by simp
  rw [e]
  exact h2

/-- THE DOCUMENT'S GAME IS THE PROGRAM'S. -/
theorem sim (hl : K.l = l.map m36) (hd : K.dl ≤ 1125899906842624) (hdel : K.delay = cl delay) (r : Res) :
    ∀ (n : Nat) (σ : St) (ts : List Int) (bs : List Bool) (op : Int), OkS K σ → 0 < σ.out.length → ts.length = bs.length → σ.sent = ts.length → σ.out = outF K 0 ts bs → σ.next = addT (rd ts ((ts.length : Int) - 1)) delay → op = σ.out.length →
      runM K n σ = some r → ∃ k, hourglassref39_Play.l0 k K.most delay K.dl l ts bs op = some (r.code, r.t, r.sent, r.who)
  | 0, σ, ts, bs, op, _, _, _, _, _, _, _, h => by simp [runM] at h
  | n + 1, σ, ts, bs, op, hO, h0, hb, hs, ho, hx, hop, h => by
    have hO' := hO
    obtain ⟨m5, s0, s1, hlen⟩ := hO
    have h5 : ts.length ≤ 5 := by omega
    have h1 : 1 ≤ ts.length := by omega
    have hgo : ∀ k, hourglassref39_Play.l0 (k + 1 + ts.length + 1) K.most delay K.dl l ts bs op = exitE K l delay k ts bs op (near σ.out (0, K.dl)).1 (near σ.out (0, K.dl)).2 := fun k => by
      have := scan (delay := delay) hl hd ts bs hb h5 h1 op k ts.length 0 K.dl (Nat.le_refl _) (Int.le_refl _)
      rw [Nat.sub_self] at this
      rw [hourglassref39_Play.l0]
      rw [ho]
      exact this
    rw [near_fst σ K.dl h0] at hgo
    have hstep := step_cases K σ
    have hok := step_ok hO' h0
    unfold runM at h
    unfold exitE at hgo
    rw [← hx] at hgo
    have hf := fst_get σ h0
    have hres := rest_len σ h0
    have hrs : (rest_ σ).out = σ.out.take (firstN σ.out σ.out.length) ++ σ.out.drop (firstN σ.out σ.out.length + 1) := rfl
    have hrsent : (rest_ σ).sent = σ.sent := rfl
    have hrnext : (rest_ σ).next = σ.next := rfl
    have hhed : hedges K σ = (σ.sent < K.most ∧ σ.next < (fst_ σ).t) := rfl
    rw [hhed] at hstep
    generalize fst_ σ = d at *
    clear hhed
    rw [ho] at hf
    obtain ⟨j, t, hj, hjb, hdd, hset⟩ := outF_get K ts bs 0 _ d hf
    have hjl : j < ts.length := (List.getElem?_eq_some_iff.1 hj).1
    rw [← ho, ← hrs] at hset
    have hwho : d.who = ((j + 1 : Nat) : Int) := by rw [hdd]; unfold dueOf; split <;> simp
    have hwl : wrap64 (((j + 1 : Nat) : Int) - 1) = (j : Int) := by unfold wrap64; omega
    have hlate : ∀ k, hourglassref39_Play.j2 (k + 1) K.most delay K.dl l ts bs op 0 K.dl σ.next false = some (4, K.dl, (ts.length : Int), 0) := fun k => by
      rw [hourglassref39_Play.j2]
      simp
    have hsnd : ∀ (t' : Int) (ts' : List Int) (bs' : List Bool) (σ1 : St), ts'.length = bs'.length → σ1.sent = ts'.length → σ1.out = outF K 0 ts' bs' → (sendM K σ1 t').sent = ((ts' ++ [t']).length : Nat) ∧ (sendM K σ1 t').out = outF K 0 (ts' ++ [t']) (bs' ++ [false]) ∧ (sendM K σ1 t').next = addT (rd (ts' ++ [t']) (((ts' ++ [t']).length : Int) - 1)) delay := fun t' ts' bs' σ1 h1 h2 h3 => by
      refine ⟨by simp [sendM, h2], ?_, ?_⟩
      · rw [outF_snoc K _ _ _ _ h1, ← h3]
        simp only [sendM, h2]
        congr 3
        simp
      · rw [last_snoc]
        simp only [sendM]
        rw [hdel, addT_cl]
    have hjc : (j : Int) < K.l.length ∧ d.code = clean (rd_T34 l j).f1 ∨ d.t = 1125899906842624 := by
      rw [hdd, dueOf_m hl]
      split
      · rename_i hc
        refine .inl ⟨by have h7 := hc.1; rw [hl, List.length_map]; omega, ?_⟩
        have e7 : (((0 + j + 1 : Nat) : Int) - 1) = (j : Int) := by omega
        show clean _ = _
        rw [e7]
      · exact .inr rfl
    rcases hstep with ⟨e, hh, hn⟩ | ⟨e, hh⟩ | ⟨e, hh, ht, hc⟩ | ⟨e, hh, ht, hc, hm⟩ | ⟨e, hh, ht, hc, hm, hne⟩
    · rw [e] at h hok
      obtain ⟨hok1, hok2, _⟩ := hok rfl
      obtain ⟨a1, a2, a3⟩ := hsnd σ.next ts bs σ hb hs ho
      obtain ⟨k, hk⟩ := sim hl hd hdel r n _ (ts ++ [σ.next]) (bs ++ [false]) (op + 1) hok1 hok2 (by simp [hb]) a1 a2 a3 (by simp [sendM, hop]) h
      refine ⟨_, (hgo (k + 1)).trans ?_⟩
      rw [if_pos (by have := hh.1; omega)]
      have hw : ∀ p : Int × Int, p = (if d.t < K.dl then (d.who, d.t) else (0, K.dl)) → σ.next < p.2 := by
        rintro p rfl
        have := hh.2
        split
        · exact this
        · exact hn
      generalize (if d.t < K.dl then (d.who, d.t) else (0, K.dl)) = p at *
      rw [decide_eq_true (hw p rfl), hourglassref39_Play.j2]
      rw [if_pos rfl, if_pos (by omega), if_pos (by omega)]
      have : wrap64 (op + 1) = op + 1 := by unfold wrap64; omega
      rw [this]
      exact hk
    · rw [e] at h
      injection h with h
      subst h
      refine ⟨_, (hgo 1).trans ?_⟩
      have hnd : ¬ d.t < K.dl := by
        rcases hh with ⟨a, b⟩ | ⟨a, b⟩
        · have := a.2; omega
        · omega
      rw [if_neg hnd]
      have hnn : (ts.length : Int) < K.most → decide (σ.next < K.dl) = false := fun hm => decide_eq_false (by
        rcases hh with ⟨a, b⟩ | ⟨a, b⟩
        · omega
        · have : ¬ (σ.sent < K.most ∧ σ.next < d.t) := a
          omega)
      have hres2 : some (4, K.dl, (ts.length : Int), (0 : Int)) = some ((lateM K σ).code, (lateM K σ).t, (lateM K σ).sent, (lateM K σ).who) := by simp [lateM, hs]
      rw [← hres2]
      by_cases hm : (ts.length : Int) < K.most
      · rw [if_pos hm]
        show hourglassref39_Play.j2 _ _ _ _ _ _ _ _ 0 K.dl _ (decide (σ.next < K.dl)) = _
        rw [hnn hm]
        exact hlate 0
      · rw [if_neg hm]
        exact hlate 0
    all_goals
      have hpass : ∀ k, (if (ts.length : Int) < K.most then hourglassref39_Play.j2 k K.most delay K.dl l ts bs op d.who d.t σ.next (decide (σ.next < d.t)) else hourglassref39_Play.j2 k K.most delay K.dl l ts bs op d.who d.t σ.next false) = hourglassref39_Play.j2 k K.most delay K.dl l ts bs op d.who d.t σ.next false := fun k => by
        split
        · rename_i hm
          have : ¬ (σ.sent < K.most ∧ σ.next < d.t) := hh
          rw [decide_eq_false (by omega)]
        · rfl
      have hcm : (j : Int) < K.l.length ∧ d.code = clean (rd_T34 l j).f1 := hjc.resolve_right (by omega)
      have hj2 : ∀ k, hourglassref39_Play.j2 (k + 1) K.most delay K.dl l ts bs op d.who d.t σ.next false = if againB d.code = true then (if (ts.length : Int) = K.most then hourglassref39_Play.j3 k K.most delay K.dl l ts (bs.set j true) (wrap64 (op - 1)) d.who d.t (rd_T34 l j).f1 (wrap64 (op - 1) == 0) else hourglassref39_Play.j3 k K.most delay K.dl l ts (bs.set j true) (wrap64 (op - 1)) d.who d.t (rd_T34 l j).f1 false) else hourglassref39_Play.j3 k K.most delay K.dl l ts (bs.set j true) (wrap64 (op - 1)) d.who d.t (rd_T34 l j).f1 true := fun k => by
        rw [hourglassref39_Play.j2, hwho, hwl]
        have hll : K.l.length = l.length := by rw [hl, List.length_map]
        rw [if_neg (by simp), if_neg (by omega), if_pos (by omega), if_pos (by omega)]
        simp only [Option.bind_some]
        rw [if_pos (by omega), again_f, ← hcm.2]
        rfl
      have hop1 : wrap64 (op - 1) = op - 1 := by unfold wrap64; omega
      have hsl : (bs.set j true).length = ts.length := by rw [List.length_set, hb]
    · rw [e] at h
      injection h with h
      subst h
      refine ⟨_, (hgo 2).trans ?_⟩
      rw [if_pos ht, hpass 2, hj2]
      have hend : hourglassref39_Play.j3 1 K.most delay K.dl l ts (bs.set j true) (wrap64 (op - 1)) d.who d.t (rd_T34 l j).f1 true = some (d.code, d.t, σ.sent, d.who) := by
        rw [hourglassref39_Play.j3, if_pos rfl, clean_f, ← hcm.2, hs]
        rfl
      rcases hc with hc | ⟨hc1, hc2⟩
      · rw [hc, if_neg (by simp)]
        exact hend
      · have : (wrap64 (op - 1) == 0) = true := by rw [hop1, hop, hc2]; rfl
        rw [if_pos (show (ts.length : Int) = K.most by omega), this]
        split <;> exact hend
    · rw [e] at h hok
      obtain ⟨hok1, hok2, _⟩ := hok rfl
      obtain ⟨a1, a2, a3⟩ := hsnd d.t ts (bs.set j true) (rest_ σ) hsl.symm (by rw [hrsent, hs]) hset.symm
      obtain ⟨k, hk⟩ := sim hl hd hdel r n _ (ts ++ [d.t]) (bs.set j true ++ [false]) (op - 1 + 1) hok1 hok2 (by simp [hb]) a1 a2 a3 (by simp [sendM, hop, hres]; omega) h
      refine ⟨_, (hgo (k + 1 + 1)).trans ?_⟩
      rw [if_pos ht, hpass, hj2, if_pos hc, if_neg (by omega), hourglassref39_Play.j3, if_neg (by simp), if_pos (by omega), if_pos (by omega), if_pos (by omega), hop1]
      have : wrap64 (op - 1 + 1) = op - 1 + 1 := by unfold wrap64; omega
      rw [this]
      exact hk
    · rw [e] at h hok
      obtain ⟨hok1, hok2, _⟩ := hok rfl
      obtain ⟨k, hk⟩ := sim hl hd hdel r n _ ts (bs.set j true) (op - 1) hok1 hok2 hsl.symm (by rw [hrsent, hs]) hset.symm (by rw [hrnext, hx]) (by rw [hop, hres]; omega) h
      refine ⟨_, (hgo (k + 1 + 1)).trans ?_⟩
      have h0' : (wrap64 (op - 1) == 0) = false := by rw [hop1]; simp; omega
      rw [if_pos ht, hpass, hj2, if_pos hc, if_pos (by omega), h0', hourglassref39_Play.j3, if_neg (by simp), if_neg (by omega), hop1]
      exact hk
end

/-- HedgePlays: the document's answer. -/
theorem play_f (most delay dl : Int) (l : List S34) : ∃ k, hourglassref39_Play.f k most delay dl l = some ((playM most delay dl (l.map m36)).code, (playM most delay dl (l.map m36)).t, (playM most delay dl (l.map m36)).sent, (playM most delay dl (l.map m36)).who) := by
  by_cases h0 : cl dl = 0
  · refine ⟨0, ?_⟩
    unfold hourglassref39_Play.f playM
    rw [attempts_f, clamp_f, if_pos h0]
    simp only [Option.bind_some, if_pos h0]
  · have hr := playM_run most delay dl (l.map m36) h0
    obtain ⟨hO, hp, _⟩ := start_ok (K := kOf most delay dl (l.map m36)) (mostOf_bd most).1 (mostOf_bd most).2
    obtain ⟨k, hk⟩ := sim (K := kOf most delay dl (l.map m36)) (l := l) (delay := delay) rfl (cl_bd dl).2 rfl _ 12 _ [0] [false] 1 hO hp rfl rfl rfl (by
      show addT 0 (cl delay) = _
      rw [addT_cl]
      rfl) rfl hr
    refine ⟨k, ?_⟩
    unfold hourglassref39_Play.f
    rw [attempts_f, clamp_f]
    simp only [Option.bind_some, if_neg h0]
    exact hk

end Go.Proofs.Ytpkmpbocgbmliaa.Hd

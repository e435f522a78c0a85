/- Ring: the owner, in plain Lean. -/
import Derived.Test.YtbjepnneklnenaaRgA
set_option linter.unusedVariables false
set_option linter.unusedSimpArgs false
namespace Go.Proofs.Ytbjepnneklnenaa.Rg
open Go.RowKit Go.Lib Go.Proofs.Ytbjepnneklnenaa.Crc Go.Proofs.YtbjepnneklnenaaW.PrintWords Go.Proofs.YtbjepnneklnenaaW.PrintMore
open Go.Proofs.Ytbjepnneklnenaa.PR (hourglassref42_Owner.f hourglassref42_Owner.l0 hourglassref42_Owner.l1)

/-- How far a point is, going up. -/
def far (f a : Int) : Int := if a - f < 0 then a - f + 65536 else a - f

/-- The owner of a sum among points. -/
def Own (K : List Pt) (f o : Int) : Prop := ∃ p ∈ K, o = p.m ∧ ∀ q ∈ K, far f p.a < far f q.a ∨ (far f p.a = far f q.a ∧ p.m ≤ q.m)

theorem Own.one {K : List Pt} {f o o' : Int} (h : Own K f o) (h' : Own K f o') : o = o' := by
  obtain ⟨p, hp, ho, hq⟩ := h
  obtain ⟨p', hp', ho', hq'⟩ := h'
  have h1 := hq p' hp'
  have h2 := hq' p hp
  omega

theorem Own.of_mem {K K' : List Pt} {f o : Int} (h : Own K f o) (he : ∀ p, p ∈ K ↔ p ∈ K') : Own K' f o := by
  obtain ⟨p, hp, ho, hq⟩ := h
  exact ⟨p, (he p).1 hp, ho, fun q hq' => hq q ((he q).2 hq')⟩

theorem mem_pts {M : List Int} {R : Nat} {p : Pt} : p ∈ pts M R ↔ p.m ∈ M ∧ ∃ n : Nat, n < R ∧ p = ⟨pos p.m (n : Int), p.m, (n : Int)⟩ := by
  unfold pts dots
  rw [List.mem_flatMap]
  constructor
  · rintro ⟨m, hm, hp⟩
    obtain ⟨n, hn, rfl⟩ := List.mem_map.1 hp
    exact ⟨hm, n, List.mem_range.1 hn, rfl⟩
  · rintro ⟨hm, n, hn, hp⟩
    exact ⟨p.m, hm, List.mem_map.2 ⟨n, List.mem_range.2 hn, hp.symm⟩⟩

theorem pts_a {M : List Int} {R : Nat} {p : Pt} (h : p ∈ pts M R) : 0 ≤ p.a ∧ p.a ≤ 65535 := by
  obtain ⟨_, n, _, e⟩ := mem_pts.1 h
  have e1 : p.a = pos p.m (n : Int) := by rw [e]
  rw [e1]
  exact ⟨pos_lo _ _, pos_hi _ _⟩

theorem sorted_m {P : List Pt} (hs : P.Pairwise (fun a b => leP a b = true)) {i j : Nat} {p q : Pt} (hi : P[i]? = some p) (hj : P[j]? = some q) (hij : i ≤ j) : p.a < q.a ∨ (p.a = q.a ∧ p.m ≤ q.m) := by
  obtain ⟨h1, e1⟩ := List.getElem?_eq_some_iff.1 hi
  obtain ⟨h2, e2⟩ := List.getElem?_eq_some_iff.1 hj
  by_cases h : i = j
  · subst h
    rw [hi] at hj
    injection hj with e
    rw [e]; exact .inr ⟨rfl, Int.le_refl _⟩
  · have := (List.pairwise_iff_getElem.1 hs) i j h1 h2 (by omega)
    rw [e1, e2] at this
    have h3 := of_decide_eq_true this
    unfold LtP at h3
    omega

theorem own_of_goes {K : List Pt} {f o : Int} (hb : ∀ p ∈ K, 0 ≤ p.a ∧ p.a ≤ 65535) (h0 : 0 ≤ f) (h1 : f ≤ 65535) (h : Goes (sortP K) f o) : Own K f o := by
  obtain ⟨i, k, p, hlb, hi, hk, hp, ho⟩ := h
  have hs := sortP_pw K
  have hpK : p ∈ K := (sortP_perm K).mem_iff.1 (List.mem_of_getElem? hp)
  refine ⟨p, hpK, ho, fun q hq => ?_⟩
  have hqb := hb q hq
  have hpb := hb p hpK
  obtain ⟨j, hj⟩ := List.mem_iff_getElem?.1 ((sortP_perm K).mem_iff.2 hq)
  have hjl := (List.getElem?_eq_some_iff.1 hj).1
  rcases hk with ⟨hil, rfl⟩ | ⟨rfl, rfl⟩
  · have hpf := hlb.2 k p hp (Nat.le_refl _)
    rcases Nat.lt_or_ge j k with hjk | hjk
    · have hqf := hlb.1 j q hj hjk
      unfold far
      rw [if_neg (by omega), if_pos (by omega)]
      omega
    · have hqf := hlb.2 j q hj hjk
      have := sorted_m hs hp hj hjk
      unfold far
      rw [if_neg (by omega), if_neg (by omega)]
      omega
  · have hpf := hlb.1 0 p hp (by omega)
    have hqf := hlb.1 j q hj hjl
    have := sorted_m hs hp hj (Nat.zero_le _)
    unfold far
    rw [if_pos (by omega), if_pos (by omega)]
    omega

/-- The document's step. -/
def stepO (f : Int) (s : Int × Int) (p : Pt) : Int × Int :=
  if s.1 = -1 then (p.m, far f p.a) else if far f p.a < s.2 then (p.m, far f p.a) else if far f p.a = s.2 then (if p.m < s.1 then (p.m, far f p.a) else s) else s

theorem fold_own (f : Int) : ∀ (K K0 : List Pt) (s : Int × Int), (∀ p ∈ K0 ++ K, 0 ≤ p.m) → ((K0 = [] ∧ s.1 = -1) ∨ (∃ p ∈ K0, s = (p.m, far f p.a) ∧ ∀ q ∈ K0, far f p.a < far f q.a ∨ (far f p.a = far f q.a ∧ p.m ≤ q.m))) →
    ((K0 ++ K = [] ∧ (K.foldl (stepO f) s).1 = -1) ∨ Own (K0 ++ K) f (K.foldl (stepO f) s).1)
  | [], K0, s, hm, h => by
    rw [List.append_nil]
    rcases h with ⟨h1, h2⟩ | ⟨p, hp, hs, hq⟩
    · exact .inl ⟨h1, h2⟩
    · refine .inr ⟨p, hp, ?_, hq⟩
      rw [List.foldl_nil, hs]
  | p :: K, K0, s, hm, h => by
    rw [List.foldl_cons, show K0 ++ p :: K = (K0 ++ [p]) ++ K by simp]
    refine fold_own f K (K0 ++ [p]) (stepO f s p) (by simpa using hm) (.inr ?_)
    rcases h with ⟨rfl, h2⟩ | ⟨q, hq, hs, hmin⟩
    · refine ⟨p, by simp, ?_, ?_⟩
      · unfold stepO; rw [if_pos h2]
      · intro x hx
        rw [List.nil_append, List.mem_singleton] at hx
        subst hx
        exact .inr ⟨rfl, Int.le_refl _⟩
    · have hqm := hm q (by simp [hq])
      subst hs
      unfold stepO
      simp only
      rw [if_neg (by omega)]
      have hnew : ∀ (z : Pt), (z = q ∨ z = p) → (far f z.a < far f q.a ∨ (far f z.a = far f q.a ∧ z.m ≤ q.m)) → (far f z.a < far f p.a ∨ (far f z.a = far f p.a ∧ z.m ≤ p.m)) → ∀ x ∈ K0 ++ [p], far f z.a < far f x.a ∨ (far f z.a = far f x.a ∧ z.m ≤ x.m) := by
        intro z _ h1 h2 x hx
        rcases List.mem_append.1 hx with h | h
        · have := hmin x h; omega
        · rw [List.mem_singleton.1 h]; exact h2
      by_cases c1 : far f p.a < far f q.a
      · rw [if_pos c1]
        exact ⟨p, by simp, rfl, hnew p (.inr rfl) (.inl c1) (.inr ⟨rfl, Int.le_refl _⟩)⟩
      · rw [if_neg c1]
        by_cases c2 : far f p.a = far f q.a
        · rw [if_pos c2]
          by_cases c3 : p.m < q.m
          · rw [if_pos c3]
            exact ⟨p, by simp, rfl, hnew p (.inr rfl) (by omega) (.inr ⟨rfl, Int.le_refl _⟩)⟩
          · rw [if_neg c3]
            exact ⟨q, by simp [hq], rfl, hnew q (.inl rfl) (.inr ⟨rfl, Int.le_refl _⟩) (by omega)⟩
        · rw [if_neg c2]
          exact ⟨q, by simp [hq], rfl, hnew q (.inl rfl) (.inr ⟨rfl, Int.le_refl _⟩) (by omega)⟩

theorem dots_drop (m : Int) (R j : Nat) (h : j < R) : (dots m R).drop j = ⟨pos m (j : Int), m, (j : Int)⟩ :: (dots m R).drop (j + 1) := by
  have h1 : j < (dots m R).length := by rw [dots_len]; exact h
  rw [List.drop_eq_getElem_cons h1]
  simp [dots]

theorem own_row (l : List Int) (R : Nat) (f : Int) (i : Nat) (m : Int) (hl : l.length ≤ 100) (hR : R ≤ 32) (hi : l[i]? = some m) (hm0 : 0 ≤ m) (hm1 : m ≤ 255) (h0 : 0 ≤ f) (h1 : f ≤ 65535) :
    ∀ (c j F : Nat) (s : Int × Int), j + c = R → hourglassref42_Owner.l1 (F + 22 + c) l (R : Int) f s.1 s.2 (i : Int) (j : Int) = hourglassref42_Owner.l0 (F + 21) l (R : Int) f (((dots m R).drop j).foldl (stepO f) s).1 (((dots m R).drop j).foldl (stepO f) s).2 ((i + 1 : Nat) : Int)
  | 0, j, F, s, h => by
    have hlt := (List.getElem?_eq_some_iff.1 hi).1
    have : (dots m R).drop j = [] := List.drop_eq_nil_of_le (by rw [dots_len]; omega)
    rw [this, show F + 22 + 0 = (F + 21) + 1 by omega, hourglassref42_Owner.l1, if_neg (by omega), w_succ i (by omega)]
    rfl
  | c + 1, j, F, s, h => by
    have hlt := (List.getElem?_eq_some_iff.1 hi).1
    have ih := fun s => own_row l R f i m hl hR hi hm0 hm1 h0 h1 c (j + 1) F s (by omega)
    have ha := at_f m (j : Int) hm0 hm1 (by omega) (by omega) (F + 1 + c)
    rw [dots_drop m R j (by omega), List.foldl_cons, ← ih]
    have hp0 := pos_lo m (j : Int)
    have hp1 := pos_hi m (j : Int)
    have e1 : wrap64 (pos m (j : Int) - f) = pos m (j : Int) - f := by unfold wrap64; omega
    have e2 : wrap64 (pos m (j : Int) - f + 65536) = pos m (j : Int) - f + 65536 := by unfold wrap64; omega
    rw [show F + 22 + (c + 1) = (F + 22 + c) + 1 by omega, hourglassref42_Owner.l1, if_pos (by omega), if_pos (by omega), if_pos (by omega), rd_get hi, show F + 22 + c = F + 1 + c + 21 by omega, ha, Option.bind_some]
    simp only [e1, e2, w_succ j (by omega)]
    unfold stepO far
    by_cases c1 : pos m (j : Int) - f < 0
    · simp only [c1, if_true]
      split
      · rfl
      · split
        · rfl
        · split
          · split <;> rfl
          · rfl
    · simp only [c1, if_false]
      split
      · rfl
      · split
        · rfl
        · split
          · split <;> rfl
          · rfl

theorem own_all (l : List Int) (R : Nat) (f : Int) (hl : l.length ≤ 100) (hR : R ≤ 32) (hm : ∀ m ∈ l, 0 ≤ m ∧ m ≤ 255) (h0 : 0 ≤ f) (h1 : f ≤ 65535) :
    ∀ (c i F : Nat) (s : Int × Int), i + c = l.length → hourglassref42_Owner.l0 (F + 21 + 34 * c) l (R : Int) f s.1 s.2 (i : Int) = some ((pts (l.drop i) R).foldl (stepO f) s).1
  | 0, i, F, s, h => by
    have : l.drop i = [] := List.drop_eq_nil_of_le (by omega)
    rw [this, show F + 21 + 34 * 0 = (F + 20) + 1 by omega, hourglassref42_Owner.l0, if_neg (by omega)]
    rfl
  | c + 1, i, F, s, h => by
    obtain ⟨m, hi⟩ : ∃ m, l[i]? = some m := ⟨_, List.getElem?_eq_getElem (by omega)⟩
    have hmm := hm m (List.mem_of_getElem? hi)
    have hd : l.drop i = m :: l.drop (i + 1) := by
      obtain ⟨h1, h2⟩ := List.getElem?_eq_some_iff.1 hi
      rw [List.drop_eq_getElem_cons h1, h2]
    have hr := own_row l R f i m hl hR hi hmm.1 hmm.2 h0 h1 R 0 (F + 32 + 34 * c - R) s (by omega)
    rw [show F + 32 + 34 * c - R + 22 + R = F + 54 + 34 * c by omega, List.drop_zero] at hr
    have ih := own_all l R f hl hR hm h0 h1 c (i + 1) (F + 32 - R) ((dots m R).foldl (stepO f) s) (by omega)
    rw [show F + 32 + 34 * c - R + 21 = F + 32 - R + 21 + 34 * c by omega, ih] at hr
    rw [show F + 21 + 34 * (c + 1) = (F + 54 + 34 * c) + 1 by omega, hourglassref42_Owner.l0, if_pos (by omega)]
    refine hr.trans ?_
    rw [hd, show pts (m :: l.drop (i + 1)) R = dots m R ++ pts (l.drop (i + 1)) R by simp [pts], List.foldl_append]

/-- The document's owner. -/
def docO (l : List Int) (R : Nat) (f : Int) : Int := ((pts l R).foldl (stepO f) (-1, 0)).1

theorem owner_f (l : List Int) (R : Nat) (key : ByteArray) (hl : l.length ≤ 100) (hR : R ≤ 32) (hm : ∀ m ∈ l, 0 ≤ m ∧ m ≤ 255) (hk : key.size ≤ 5000) (F : Nat) :
    hourglassref42_Owner.f (F + 60000) l (R : Int) key = some (docO l R (sumZ key)) := by
  unfold hourglassref42_Owner.f docO
  have hs := ref_sum key hk (F + 60000 - 10 * key.size - 1)
  rw [show F + 60000 - 10 * key.size - 1 + 10 * key.size + 1 = F + 60000 by omega] at hs
  have h0 := sum_lo key
  have h1 := sum_hi key
  have hw : wrap64 (sumZ key) = sumZ key := by unfold wrap64; omega
  rw [hs, Option.bind_some, hw]
  have := own_all l R (sumZ key) hl hR hm h0 h1 l.length 0 (F + 60000 - 21 - 34 * l.length) (-1, 0) (by omega)
  rw [show F + 60000 - 21 - 34 * l.length + 21 + 34 * l.length = F + 60000 by omega, List.drop_zero] at this
  exact this

theorem docO_own {l : List Int} {R : Nat} {f : Int} (hm : ∀ m ∈ l, 0 ≤ m) (h : pts l R ≠ []) : Own (pts l R) f (docO l R f) := by
  have := fold_own f (pts l R) [] (-1, 0) (by
    intro p hp
    exact hm _ (mem_pts.1 (by simpa using hp)).1) (.inl ⟨rfl, rfl⟩)
  rw [List.nil_append] at this
  exact this.resolve_left (fun h2 => h h2.1)

theorem docO_none {l : List Int} {R : Nat} {f : Int} (h : pts l R = []) : docO l R f = -1 := by
  unfold docO
  rw [h]
  rfl
end Go.Proofs.Ytbjepnneklnenaa.Rg

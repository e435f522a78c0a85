/- Hedge: the bounds, an answer ahead of all others, a later deadline; in plain Lean. No condition. -/
import Derived.Test.YtpkmpbocgbmliaaHdL
set_option linter.unusedVariables false
set_option linter.unusedSimpArgs false
namespace Go.Proofs.Ytpkmpbocgbmliaa.Hd
open Go.RowKit Go.Proofs.Ytpkmpbocgbmliaa.PHedgePlays Go.Proofs.YtpkmpbocgbmliaaW.PrintWords Go.Proofs.YtpkmpbocgbmliaaW.PrintMore

theorem run_inv {K : Kst} {P : St → Prop} (hP : ∀ σ, OkS K σ → 0 < σ.out.length → P σ → (stepM K σ).1 = none → P (stepM K σ).2) (r : Res) :
    ∀ (n : Nat) (σ : St), OkS K σ → 0 < σ.out.length → P σ → runM K n σ = some r → ∃ σ', OkS K σ' ∧ 0 < σ'.out.length ∧ P σ' ∧ (stepM K σ').1 = some r
  | 0, σ, _, _, _, h => by simp [runM] at h
  | n + 1, σ, hO, h0, hp, h => by
    unfold runM at h
    cases hs : stepM K σ with
    | mk o σ' =>
      rw [hs] at h
      cases o with
      | some q => exact ⟨σ, hO, h0, hp, by rw [hs]; exact h⟩
      | none =>
        have h1 := step_ok hO h0 (by rw [hs])
        have h2 := hP σ hO h0 hp (by rw [hs])
        rw [hs] at h1 h2
        exact run_inv hP r n σ' h1.1 h1.2.1 h2 h

theorem firstN_le (out : List Due) : ∀ n j, j < n → (out.getD (firstN out n) due0).t ≤ (out.getD j due0).t
  | 0, j, h => by omega
  | n + 1, j, h => by
    unfold firstN
    have ih := firstN_le out n
    split
    · rename_i h1
      by_cases e : j = n
      · subst e; exact Int.le_refl _
      · have := ih j (by omega); omega
    · rename_i h1
      by_cases e : j = n
      · subst e; omega
      · exact ih j (by omega)

theorem fst_le (σ : St) {d : Due} (hd : d ∈ σ.out) : (fst_ σ).t ≤ d.t := by
  obtain ⟨j, hj, rfl⟩ := List.getElem_of_mem hd
  have := firstN_le σ.out σ.out.length j hj
  rw [List.getD_eq_getElem?_getD (l := σ.out) (i := j), List.getElem?_eq_getElem hj] at this
  exact this

theorem fst_mem (σ : St) (h0 : 0 < σ.out.length) : fst_ σ ∈ σ.out := List.mem_of_getElem? (fst_get σ h0)

theorem rest_sub (σ : St) {d : Due} (h : d ∈ (rest_ σ).out) : d ∈ σ.out := by
  rcases List.mem_append.1 h with h | h
  · exact List.mem_of_mem_take h
  · exact List.mem_of_mem_drop h

theorem rest_mem (σ : St) {d : Due} (h : d ∈ σ.out) (hne : d ≠ fst_ σ) : d ∈ (rest_ σ).out := by
  have h0 : 0 < σ.out.length := List.length_pos_of_mem h
  obtain ⟨j, hj, rfl⟩ := List.getElem_of_mem h
  have hg := fst_get σ h0
  show _ ∈ _ ++ _
  generalize firstN σ.out σ.out.length = m at *
  have hjm : j ≠ m := by
    rintro rfl
    rw [List.getElem?_eq_getElem hj] at hg
    exact hne (Option.some.inj hg)
  rw [List.mem_append]
  by_cases hlt : j < m
  · left
    have : (σ.out.take m)[j]? = some σ.out[j] := by rw [List.getElem?_take, if_pos hlt, List.getElem?_eq_getElem hj]
    exact List.mem_of_getElem? this
  · right
    have : (σ.out.drop (m + 1))[j - (m + 1)]? = some σ.out[j] := by rw [List.getElem?_drop, show m + 1 + (j - (m + 1)) = j from by omega, List.getElem?_eq_getElem hj]
    exact List.mem_of_getElem? this

/-- Each answer to come is an attempt's. -/
def InvB (K : Kst) (σ : St) : Prop := (∀ d ∈ σ.out, ∃ s t, d = dueOf K s t ∧ 1 ≤ s ∧ s ≤ σ.sent ∧ 0 ≤ t) ∧ 1 ≤ σ.sent ∧ 0 ≤ σ.next

theorem dueOf_who (K : Kst) (s t : Int) : (dueOf K s t).who = s := by unfold dueOf; split <;> rfl
theorem dueOf_t (K : Kst) (s t : Int) : 0 ≤ (dueOf K s t).t ∧ (dueOf K s t).t ≤ 1125899906842624 := by
  unfold dueOf; split
  · exact addT_bd _ _
  · exact ⟨show (0 : Int) ≤ 1125899906842624 by decide, Int.le_refl _⟩

theorem invB_send {K : Kst} {σ : St} (h : InvB K σ) (t : Int) (ht : 0 ≤ t) : InvB K (sendM K σ t) := by
  obtain ⟨h1, h2, h3⟩ := h
  refine ⟨?_, by simp [sendM]; omega, (addT_bd _ _).1⟩
  intro d hd
  simp only [sendM, List.mem_append, List.mem_singleton] at hd
  rcases hd with hd | rfl
  · obtain ⟨s, t', e, a, b, c⟩ := h1 d hd
    exact ⟨s, t', e, a, by simp [sendM]; omega, c⟩
  · exact ⟨σ.sent + 1, t, rfl, by omega, by simp [sendM], ht⟩

theorem invB_rest {K : Kst} {σ : St} (h : InvB K σ) : InvB K (rest_ σ) := ⟨fun d hd => h.1 d (rest_sub σ hd), h.2.1, h.2.2⟩

theorem invB_t {K : Kst} {σ : St} (h : InvB K σ) (h0 : 0 < σ.out.length) : 0 ≤ (fst_ σ).t := by
  obtain ⟨s, t, e, _⟩ := h.1 _ (fst_mem σ h0)
  rw [e]
  exact (dueOf_t _ _ _).1

theorem invB_step {K : Kst} (σ : St) (hO : OkS K σ) (h0 : 0 < σ.out.length) (h : InvB K σ) (hn : (stepM K σ).1 = none) : InvB K (stepM K σ).2 := by
  rcases step_cases K σ with ⟨e, h1, h2⟩ | ⟨e, _⟩ | ⟨e, _⟩ | ⟨e, h1, h2, h3, h4⟩ | ⟨e, h1, h2, h3, h4, h5⟩
  · rw [e]; exact invB_send h _ h.2.2
  · rw [e] at hn; cases hn
  · rw [e] at hn; cases hn
  · rw [e]; exact invB_send (invB_rest h) _ (invB_t h h0)
  · rw [e]; exact invB_rest h

theorem invB_start (K : Kst) : InvB K (start K) := by
  refine ⟨?_, by simp [start, sendM], (addT_bd _ _).1⟩
  intro d hd
  simp only [start, sendM, List.nil_append, List.mem_singleton] at hd
  subst hd
  exact ⟨1, 0, rfl, Int.le_refl _, by simp [start, sendM], Int.le_refl _⟩

theorem addT_ge (t a : Int) (h : 0 ≤ t) : cl a ≤ addT t a := by
  unfold addT
  have h1 := cl_bd t
  have h2 := cl_bd a
  generalize cl t = x at *
  generalize cl a = y at *
  unfold cl; split <;> (try split) <;> omega

structure BoundsM (K : Kst) (r : Res) : Prop where
  s1 : 1 ≤ r.sent
  s5 : r.sent ≤ K.most
  w0 : 0 ≤ r.who
  ws : r.who ≤ r.sent
  z : r.who = 0 → r.code = 4 ∧ r.t = K.dl
  nz : r.who ≠ 0 → r.who ≤ K.l.length ∧ r.t < K.dl ∧ 0 ≤ (rd_T36 K.l (r.who - 1)).f0 ∧ r.code = clean (rd_T36 K.l (r.who - 1)).f1 ∧ cl (rd_T36 K.l (r.who - 1)).f0 ≤ r.t

theorem bounds_end {K : Kst} (hd : K.dl ≤ 1125899906842624) {σ : St} {r : Res} (hO : OkS K σ) (h0 : 0 < σ.out.length) (h : InvB K σ) (hr : (stepM K σ).1 = some r) : BoundsM K r := by
  rcases step_cases K σ with ⟨e, h1, h2⟩ | ⟨e, _⟩ | ⟨e, hh, ht, hc⟩ | ⟨e, h1, h2, h3, h4⟩ | ⟨e, h1, h2, h3, h4, h5⟩
  · rw [e] at hr; cases hr
  · rw [e] at hr
    injection hr with hr
    subst hr
    exact ⟨h.2.1, hO.s1, Int.le_refl _, by have := h.2.1; show (0 : Int) ≤ σ.sent; omega, fun _ => ⟨rfl, rfl⟩, fun h => absurd rfl h⟩
  · rw [e] at hr
    injection hr with hr
    subst hr
    obtain ⟨s, t, ed, a, b, c⟩ := h.1 _ (fst_mem σ h0)
    have hw : (fst_ σ).who = s := by rw [ed, dueOf_who]
    refine ⟨h.2.1, hO.s1, by show 0 ≤ (fst_ σ).who; omega, by show (fst_ σ).who ≤ σ.sent; omega, fun e => by have : (fst_ σ).who = 0 := e; omega, fun _ => ?_⟩
    show (fst_ σ).who ≤ _ ∧ (fst_ σ).t < _ ∧ 0 ≤ (rd_T36 K.l ((fst_ σ).who - 1)).f0 ∧ (fst_ σ).code = clean (rd_T36 K.l ((fst_ σ).who - 1)).f1 ∧ cl (rd_T36 K.l ((fst_ σ).who - 1)).f0 ≤ (fst_ σ).t
    rw [hw]
    by_cases hcm : s ≤ K.l.length ∧ 0 ≤ (rd_T36 K.l (s - 1)).f0
    · have e2 : fst_ σ = ⟨addT t (rd_T36 K.l (s - 1)).f0, s, clean (rd_T36 K.l (s - 1)).f1⟩ := by rw [ed]; unfold dueOf; rw [if_pos hcm]
      rw [e2] at ht ⊢
      exact ⟨hcm.1, ht, hcm.2, rfl, addT_ge _ _ c⟩
    · have e2 : (fst_ σ).t = 1125899906842624 := by rw [ed]; unfold dueOf; rw [if_neg hcm]
      omega
  · rw [e] at hr; cases hr
  · rw [e] at hr; cases hr

theorem play_bounds (most delay dl : Int) (l : List S36) (h : cl dl ≠ 0) : BoundsM (kOf most delay dl l) (playM most delay dl l) := by
  obtain ⟨hO, h0, _⟩ := start_ok (K := kOf most delay dl l) (mostOf_bd most).1 (mostOf_bd most).2
  obtain ⟨σ, a, b, c, d⟩ := run_inv (P := InvB (kOf most delay dl l)) invB_step _ 12 _ hO h0 (invB_start _) (playM_run most delay dl l h)
  exact bounds_end (cl_bd dl).2 a b c d

/-! ### An answer that comes with OK -/
theorem sooner {K : Kst} {d : Due} (hc : againB d.code = false) (ht : d.t < K.dl) {r : Res} {n : Nat} {σ : St} (hO : OkS K σ) (h0 : 0 < σ.out.length) (hB : InvB K σ) (hd : d ∈ σ.out) (hr : runM K n σ = some r) : r.t ≤ d.t ∧ 0 < r.who := by
  obtain ⟨σ', a, b, ⟨c1, c2⟩, e⟩ := run_inv (P := fun σ => InvB K σ ∧ d ∈ σ.out) (fun σ hO h0 ⟨h1, h2⟩ hn => by
    refine ⟨invB_step σ hO h0 h1 hn, ?_⟩
    rcases step_cases K σ with ⟨e, _⟩ | ⟨e, _⟩ | ⟨e, _⟩ | ⟨e, _, _, h3, _⟩ | ⟨e, _, _, h3, _⟩
    · rw [e]; exact List.mem_append_left _ h2
    · rw [e] at hn; cases hn
    · rw [e] at hn; cases hn
    · rw [e]
      exact List.mem_append_left _ (rest_mem σ h2 (fun e => by rw [← e, hc] at h3; cases h3))
    · rw [e]
      exact rest_mem σ h2 (fun e => by rw [← e, hc] at h3; cases h3)) r n σ hO h0 ⟨hB, hd⟩ hr
  have hle := fst_le σ' c2
  rcases step_cases K σ' with ⟨h, _⟩ | ⟨h, hh⟩ | ⟨h, hh, ht, hc⟩ | ⟨h, _⟩ | ⟨h, _⟩
  · rw [h] at e; cases e
  · rcases hh with ⟨x, y⟩ | ⟨x, y⟩
    · have := x.2; omega
    · omega
  · rw [h] at e
    injection e with e
    subst e
    obtain ⟨s, t, ed, x, y, z⟩ := c1.1 _ (fst_mem σ' b)
    refine ⟨hle, ?_⟩
    show 0 < (fst_ σ').who
    rw [ed, dueOf_who]
    omega
  · rw [h] at e; cases e
  · rw [h] at e; cases e

theorem first_due (K : Kst) (h1 : 0 < K.l.length) (h2 : 0 ≤ (rd_T36 K.l 0).f0) (h3 : (rd_T36 K.l 0).f1 = 0) : dueOf K 1 0 = ⟨cl (rd_T36 K.l 0).f0, 1, 0⟩ := by
  unfold dueOf
  have e : (1 : Int) - 1 = 0 := rfl
  rw [e, if_pos ⟨by omega, h2⟩, h3]
  have : addT 0 (rd_T36 K.l 0).f0 = cl (rd_T36 K.l 0).f0 := by
    have := cl_bd (rd_T36 K.l 0).f0
    unfold addT
    rw [show cl 0 = 0 from rfl, Int.zero_add, cl_in this.1 this.2]
  rw [this]
  rfl

theorem play_sooner (most delay dl : Int) (l : List S36) (h1 : 0 < l.length) (h2 : 0 ≤ (rd_T36 l 0).f0) (h3 : (rd_T36 l 0).f1 = 0) (h4 : cl (rd_T36 l 0).f0 < cl dl) :
    (playM most delay dl l).t ≤ cl (rd_T36 l 0).f0 ∧ 0 < (playM most delay dl l).who := by
  have hb := cl_bd (rd_T36 l 0).f0
  obtain ⟨hO, h0, _⟩ := start_ok (K := kOf most delay dl l) (mostOf_bd most).1 (mostOf_bd most).2
  have hf : dueOf (kOf most delay dl l) 1 0 = ⟨cl (rd_T36 l 0).f0, 1, 0⟩ := first_due (kOf most delay dl l) h1 h2 h3
  exact sooner (K := kOf most delay dl l) (d := ⟨cl (rd_T36 l 0).f0, 1, 0⟩) rfl h4 hO h0 (invB_start _) (by
    show _ ∈ ([] : List Due) ++ [dueOf (kOf most delay dl l) 1 0]
    rw [hf]
    simp) (playM_run most delay dl l (by omega))

theorem play_one (delay dl : Int) (l : List S36) (h1 : 0 < l.length) (h2 : 0 ≤ (rd_T36 l 0).f0) (h3 : (rd_T36 l 0).f1 = 0) (h4 : cl (rd_T36 l 0).f0 < cl dl) :
    playM 1 delay dl l = ⟨0, cl (rd_T36 l 0).f0, 1, 1⟩ := by
  have hb := cl_bd (rd_T36 l 0).f0
  have hf : dueOf (kOf 1 delay dl l) 1 0 = ⟨cl (rd_T36 l 0).f0, 1, 0⟩ := first_due (kOf 1 delay dl l) h1 h2 h3
  have hr := playM_run 1 delay dl l (by omega)
  have hfst : fst_ (start (kOf 1 delay dl l)) = ⟨cl (rd_T36 l 0).f0, 1, 0⟩ := by
    have e : (start (kOf 1 delay dl l)).out = [dueOf (kOf 1 delay dl l) 1 0] := rfl
    unfold fst_
    rw [e, hf]
    simp [firstN]
  unfold runM at hr
  have hnh : ¬ hedges (kOf 1 delay dl l) (start (kOf 1 delay dl l)) := fun h => absurd h.1 (by show ¬ (1 : Int) < 1; decide)
  rcases step_cases (kOf 1 delay dl l) (start (kOf 1 delay dl l)) with ⟨h, x, _⟩ | ⟨h, hh⟩ | ⟨h, hh, ht, hc⟩ | ⟨h, _, _, x, _⟩ | ⟨h, _, _, x, _⟩
  · exact absurd x hnh
  · rcases hh with ⟨x, _⟩ | ⟨_, y⟩
    · exact absurd x hnh
    · rw [hfst] at y
      have : cl dl ≤ cl (rd_T36 l 0).f0 := y
      omega
  · rw [h, hfst] at hr
    injection hr with hr
    rw [← hr]
    rfl
  · rw [hfst] at x; cases x
  · rw [hfst] at x; cases x

/-! ### A later deadline -/
/-- What comes is behind a time. -/
def Behind (K : Kst) (t s : Int) (σ : St) : Prop := (∀ d ∈ σ.out, t ≤ d.t) ∧ (σ.sent < K.most → t ≤ σ.next) ∧ s ≤ σ.sent

theorem addT_ge' (t a u : Int) (h : u ≤ t) (hu : u ≤ 1125899906842624) : u ≤ addT t a := by
  unfold addT
  have h2 := cl_bd a
  have h4 : u ≤ cl t := by unfold cl; split <;> (try split) <;> omega
  have h3 : cl (cl t + cl a) = cl t + cl a ∨ cl (cl t + cl a) = 1125899906842624 := by
    have h1 := cl_bd t
    generalize cl t = x at *
    generalize cl a = y at *
    unfold cl; split <;> (try split) <;> omega
  omega

theorem behind_send {K : Kst} {t s : Int} (htt : t ≤ 1125899906842624) {σ : St} (h : Behind K t s σ) (u : Int) (hu : t ≤ u) : Behind K t s (sendM K σ u) := by
  refine ⟨fun d hd => ?_, fun _ => addT_ge' _ _ _ hu htt, by have := h.2.2; simp [sendM]; omega⟩
  simp only [sendM, List.mem_append, List.mem_singleton] at hd
  rcases hd with hd | rfl
  · exact h.1 d hd
  · unfold dueOf
    split
    · exact addT_ge' _ _ _ hu htt
    · exact htt

theorem behind_run {K : Kst} {t s : Int} (htt : t ≤ 1125899906842624) {r : Res} {n : Nat} {σ : St} (hO : OkS K σ) (h0 : 0 < σ.out.length) (h : Behind K t s σ) (hr : runM K n σ = some r) : s ≤ r.sent ∧ (r.who = 0 ∨ t ≤ r.t) := by
  obtain ⟨σ', a, b, c, e⟩ := run_inv (P := Behind K t s) (fun σ hO h0 h hn => by
    have hf := h.1 _ (fst_mem σ h0)
    have hR : Behind K t s (rest_ σ) := ⟨fun d hd => h.1 d (rest_sub σ hd), h.2.1, h.2.2⟩
    rcases step_cases K σ with ⟨e, x, _⟩ | ⟨e, _⟩ | ⟨e, _⟩ | ⟨e, _⟩ | ⟨e, _⟩
    · rw [e]; exact behind_send htt h _ (h.2.1 x.1)
    · rw [e] at hn; cases hn
    · rw [e] at hn; cases hn
    · rw [e]; exact behind_send htt hR _ hf
    · rw [e]; exact hR) r n σ hO h0 h hr
  have hf := c.1 _ (fst_mem σ' b)
  rcases step_cases K σ' with ⟨h, _⟩ | ⟨h, _⟩ | ⟨h, _⟩ | ⟨h, _⟩ | ⟨h, _⟩
  · rw [h] at e; cases e
  · rw [h] at e
    injection e with e
    subst e
    exact ⟨c.2.2, .inl rfl⟩
  · rw [h] at e
    injection e with e
    subst e
    exact ⟨c.2.2, .inr hf⟩
  · rw [h] at e; cases e
  · rw [h] at e; cases e

/-- The same game with another deadline. -/
def withDl (K : Kst) (dl : Int) : Kst := ⟨K.most, K.delay, dl, K.l⟩

theorem later_run {K : Kst} {dl : Int} (hle : K.dl ≤ dl) (hd : K.dl ≤ 1125899906842624) {ra rb : Res} :
    ∀ (n : Nat) (σ : St), OkS K σ → 0 < σ.out.length → InvB K σ → runM K n σ = some ra → runM (withDl K dl) n σ = some rb →
      ra = rb ∨ (ra.who = 0 ∧ ra.t = K.dl ∧ ra.sent ≤ rb.sent ∧ (rb.who = 0 ∨ K.dl ≤ rb.t))
  | 0, σ, _, _, _, h, _ => by simp [runM] at h
  | n + 1, σ, hO, h0, hB, ha, hb => by
    have hO' : OkS (withDl K dl) σ := ⟨hO.most, hO.s0, hO.s1, hO.len⟩
    have hhe : hedges (withDl K dl) σ ↔ hedges K σ := Iff.rfl
    have hs := step_ok hO h0
    have hb0 := invB_step σ hO h0 hB
    have hrun : runM K (n + 1) σ = some ra := ha
    have hrunb : runM (withDl K dl) (n + 1) σ = some rb := hb
    unfold runM at ha hb
    rcases step_cases K σ with ⟨e, h1, h2⟩ | ⟨e, h1⟩ | ⟨e, h1, h2, h3⟩ | ⟨e, h1, h2, h3, h4⟩ | ⟨e, h1, h2, h3, h4, h5⟩
    · have e' : stepM (withDl K dl) σ = (none, sendM K σ σ.next) := by
        rcases step_cases (withDl K dl) σ with ⟨e', _⟩ | ⟨e', x⟩ | ⟨e', x, _⟩ | ⟨e', x, _⟩ | ⟨e', x, _⟩
        · exact e'
        · rcases x with ⟨_, y⟩ | ⟨x, _⟩
          · have : dl ≤ σ.next := y; omega
          · exact absurd h1 x
        · exact absurd h1 x
        · exact absurd h1 x
        · exact absurd h1 x
      rw [e] at ha hs hb0
      rw [e'] at hb
      exact later_run hle hd n _ (hs rfl).1 (hs rfl).2.1 (hb0 rfl) ha hb
    · rw [e] at ha
      injection ha with ha
      subst ha
      right
      have hbeh : Behind (withDl K dl) K.dl σ.sent σ := by
        refine ⟨fun d hdm => ?_, fun hm => ?_, Int.le_refl _⟩
        · have := fst_le σ hdm
          rcases h1 with ⟨x, y⟩ | ⟨x, y⟩
          · have := x.2; omega
          · omega
        · rcases h1 with ⟨x, y⟩ | ⟨x, y⟩
          · exact y
          · have h5 : ¬ (σ.sent < K.most ∧ σ.next < (fst_ σ).t) := x
            have h6 : σ.sent < K.most := hm
            omega
      have := behind_run (K := withDl K dl) hd hO' h0 hbeh hrunb
      exact ⟨rfl, rfl, this.1, this.2⟩
    · have e' : stepM (withDl K dl) σ = stepM K σ := by
        rw [e]
        rcases step_cases (withDl K dl) σ with ⟨_, x, _⟩ | ⟨e', x⟩ | ⟨e', x, _⟩ | ⟨e', _, _, x, y⟩ | ⟨e', _, _, x, y, z⟩
        · exact absurd x h1
        · rcases x with ⟨x, _⟩ | ⟨_, y⟩
          · exact absurd x h1
          · have : dl ≤ (fst_ σ).t := y; omega
        · exact e'
        · rcases h3 with h3 | h3
          · rw [h3] at x; cases x
          · have : σ.sent < K.most := y; omega
        · rcases h3 with h3 | h3
          · rw [h3] at x; cases x
          · exact absurd h3.2 z
      rw [e', e] at hb
      rw [e] at ha
      left
      injection ha with ha
      injection hb with hb
      rw [← ha, ← hb]
    · have e' : stepM (withDl K dl) σ = stepM K σ := by
        rw [e]
        rcases step_cases (withDl K dl) σ with ⟨_, x, _⟩ | ⟨e', x⟩ | ⟨e', _, _, x⟩ | ⟨e', _, _, x, y⟩ | ⟨e', _, _, x, y, z⟩
        · exact absurd x h1
        · rcases x with ⟨x, _⟩ | ⟨_, y⟩
          · exact absurd x h1
          · have : dl ≤ (fst_ σ).t := y; omega
        · rcases x with x | x
          · rw [h3] at x; cases x
          · have : K.most ≤ σ.sent := x.1; omega
        · exact e'
        · have : K.most ≤ σ.sent := y; omega
      rw [e', e] at hb
      rw [e] at ha hs hb0
      exact later_run hle hd n _ (hs rfl).1 (hs rfl).2.1 (hb0 rfl) ha hb
    · have e' : stepM (withDl K dl) σ = stepM K σ := by
        rw [e]
        rcases step_cases (withDl K dl) σ with ⟨_, x, _⟩ | ⟨e', x⟩ | ⟨e', _, _, x⟩ | ⟨e', _, _, x, y⟩ | ⟨e', _, _, x, y, z⟩
        · exact absurd x h1
        · rcases x with ⟨x, _⟩ | ⟨_, y⟩
          · exact absurd x h1
          · have : dl ≤ (fst_ σ).t := y; omega
        · rcases x with x | x
          · rw [h3] at x; cases x
          · exact absurd x.2 h5
        · have : σ.sent < K.most := y; omega
        · exact e'
      rw [e', e] at hb
      rw [e] at ha hs hb0
      exact later_run hle hd n _ (hs rfl).1 (hs rfl).2.1 (hb0 rfl) ha hb

theorem play_later (most delay dl later : Int) (l : List S36) (h : cl dl ≤ cl later) :
    ((playM most delay dl l).who = 0 ∨ playM most delay dl l = playM most delay later l) ∧ (playM most delay dl l).sent ≤ (playM most delay later l).sent ∧
    ((playM most delay later l).who = 0 ∨ playM most delay later l = playM most delay dl l ∨ (playM most delay dl l).t ≤ (playM most delay later l).t) := by
  by_cases h0 : cl dl = 0
  · have ha : playM most delay dl l = ⟨4, 0, 0, 0⟩ := by unfold playM; rw [if_pos h0]
    rw [ha]
    refine ⟨.inl rfl, ?_⟩
    by_cases h1 : cl later = 0
    · have hb : playM most delay later l = ⟨4, 0, 0, 0⟩ := by unfold playM; rw [if_pos h1]
      rw [hb]
      exact ⟨Int.le_refl _, .inl rfl⟩
    · have hb := play_bounds most delay later l h1
      refine ⟨by have := hb.s1; show (0 : Int) ≤ _; omega, ?_⟩
      by_cases hw : (playM most delay later l).who = 0
      · exact .inl hw
      · exact .inr (.inr (Int.le_trans (cl_bd _).1 (hb.nz hw).2.2.2.2))
  · obtain ⟨hO, hp, _⟩ := start_ok (K := kOf most delay dl l) (mostOf_bd most).1 (mostOf_bd most).2
    have := later_run (K := kOf most delay dl l) (dl := cl later) h (cl_bd dl).2 12 _ hO hp (invB_start _) (playM_run most delay dl l h0) (playM_run most delay later l (by have := cl_bd dl; omega))
    rcases this with e | ⟨a, b, c, d⟩
    · rw [e]
      exact ⟨.inr rfl, Int.le_refl _, .inr (.inl rfl)⟩
    · refine ⟨.inl a, c, ?_⟩
      rcases d with d | d
      · exact .inl d
      · exact .inr (.inr (by rw [b]; exact d))

end Go.Proofs.Ytpkmpbocgbmliaa.Hd

/- Alarm: the same names; both sides' laws. -/
import Derived.Test.YtmkcckkjkfmheaaRc
import Derived.Test.YtmkcckkjkfmheaaRd
import Derived.Test.YtmkcckkjkfmheaaAlQa
set_option linter.unusedVariables false
set_option linter.unusedSimpArgs false
set_option maxRecDepth 100000
namespace Go.Proofs.Ytmkcckkjkfmheaa.Al
open Go.RowKit Go.Maps Go.Proofs.Ytmkcckkjkfmheaa.Base Go.Proofs.Ytmkcckkjkfmheaa.Rws Go.Proofs.Ytmkcckkjkfmheaa.Wh Go.Proofs.YtmkcckkjkfmheaaW.PrintWords Go.Proofs.YtmkcckkjkfmheaaW.PrintMore
attribute [local go_sem] max2_mx min2_mn max_two min_two max_three min_three max_four min_four
attribute [local go_sem high] eqK27 eqK33

def En.nq (e : En) : NT := (e.n, e.t)

/-- Rising by names. -/
def SoR (R : List NT) : Prop := R.Pairwise (fun x y => LtN x.1 y.1)

theorem SoR.nd {R : List NT} (h : SoR R) : (R.map Prod.fst).Nodup := by
  unfold SoR at h
  rw [List.nodup_iff_pairwise_ne, List.pairwise_map]
  exact h.imp (fun {a b} h e => by rw [e] at h; exact LtN.irrefl _ h)

theorem SoR.filter {R : List NT} (h : SoR R) (f : NT → Bool) : SoR (R.filter f) := List.Pairwise.sublist List.filter_sublist h

theorem SoR.sort {R : List NT} (h : SoR R) {K : List K5} (hp : (R.map Prod.fst).Perm K) : R.map Prod.fst = sortN K := by
  refine sortN_of hp ?_
  rw [List.pairwise_map]
  refine List.Pairwise.imp (fun {a b} h => ?_) h
  unfold leN
  exact decide_eq_true (fun h2 => LtN.irrefl _ (h.trans h2))

theorem insK_perm (k : K5) (t : Int) : ∀ L : List NT, (insK k t L).Perm (L ++ [(k, t)])
  | [] => .refl _
  | p :: L => by
    unfold insK
    split
    · exact (List.perm_append_comm (l₁ := p :: L) (l₂ := [(k, t)])).symm
    · exact (insK_perm k t L).cons p

theorem insK_so {k : K5} {t : Int} : ∀ {L : List NT}, SoR L → (∀ p ∈ L, p.1 ≠ k) → SoR (insK k t L)
  | [], _, _ => List.pairwise_singleton _ _
  | p :: L, h, hk => by
    have h1 : (∀ q ∈ L, LtN p.1 q.1) ∧ SoR L := List.pairwise_cons.1 h
    unfold insK
    split
    · rename_i hlt
      refine List.pairwise_cons.2 ⟨fun q hq => ?_, h⟩
      rcases List.mem_cons.1 hq with rfl | hq
      · exact hlt
      · exact hlt.trans (h1.1 q hq)
    · rename_i hlt
      have hpk : LtN p.1 k := by
        rcases LtN.tri p.1 k with h3 | h3 | h3
        · exact h3
        · exact absurd h3 (hk p (by simp))
        · exact absurd h3 hlt
      refine List.pairwise_cons.2 ⟨fun q hq => ?_, insK_so h1.2 (fun q hq => hk q (List.mem_cons_of_mem _ hq))⟩
      rcases List.mem_append.1 ((insK_perm k t L).mem_iff.1 hq) with h3 | h3
      · exact h1.1 q h3
      · rw [List.mem_singleton.1 h3]; exact hpk

/-- The program's and the document's alarms are the same. -/
structure Rel (G n now : Int) (A : List En) (R : List NT) : Prop where
  so : SoR R
  pm : (A.map En.nq).Perm R
  tm : n = now / pw G ∧ 0 ≤ now ∧ now ≤ 1125899906842624
  tb : ∀ q ∈ R, 0 ≤ q.2 ∧ q.2 ≤ 1125899906842624

section
variable {G n now : Int} {A : List En} {R : List NT}
theorem Rel.names (h : Rel G n now A R) : (A.map En.n).Perm (R.map Prod.fst) := by
  have := h.pm.map Prod.fst
  rwa [List.map_map] at this

theorem Rel.len (h : Rel G n now A R) : R.length = A.length := by rw [← h.pm.length_eq, List.length_map]

theorem Rel.cut (h : Rel G n now A R) (k : K5) : Rel G n now (A.filter (fun x => decide (x.n ≠ k))) (cutN k R) := by
  refine ⟨h.so.filter _, ?_, h.tm, fun q hq => h.tb q (List.mem_filter.1 hq).1⟩
  have := h.pm.filter (fun p => decide (p.1 ≠ k))
  rw [List.filter_map] at this
  exact this

theorem Rel.set (h : Rel G n now A R) (k : K5) (t hh : Int) (ht : 0 ≤ t ∧ t ≤ 1125899906842624) : Rel G n now (setA A k t hh) (insK k t (cutN k R)) := by
  have hc := h.cut k
  have hk : ∀ p ∈ cutN k R, p.1 ≠ k := fun p hp => of_decide_eq_true (p := p.1 ≠ k) (List.mem_filter.1 hp).2
  refine ⟨insK_so hc.so hk, ?_, h.tm, fun q hq => ?_⟩
  · unfold setA
    rw [List.map_append]
    exact (hc.pm.append_right _).trans (insK_perm k t _).symm
  · rcases List.mem_append.1 ((insK_perm k t _).mem_iff.1 hq) with h3 | h3
    · exact hc.tb q h3
    · rw [List.mem_singleton.1 h3]; exact ht

theorem tOf_mem {R : List NT} (hn : (R.map Prod.fst).Nodup) {q : NT} (hq : q ∈ R) : tOf R q.1 = (q.2, true) := by
  unfold tOf
  have : R.find? (fun p => decide (p.1 = q.1)) = some q := by
    cases hf : R.find? (fun p => decide (p.1 = q.1)) with
    | none => exact absurd (List.find?_eq_none.1 hf q hq) (by simp)
    | some x =>
      have h1 := List.mem_of_find?_eq_some hf
      have h2 : x.1 = q.1 := by simpa using List.find?_some hf
      have := one_key (L := R.map (fun e => (e.1, e))) (by rw [List.map_map]; exact hn) (p := (x.1, x)) (q := (q.1, q)) (List.mem_map.2 ⟨x, h1, rfl⟩) (List.mem_map.2 ⟨q, hq, rfl⟩) h2
      have h3 : x = q := congrArg Prod.snd this
      rw [h3]
  rw [this]

theorem Rel.time (h : Rel G n now A R) (k : K5) : timeOf A k = tOf R k := by
  by_cases hk : ∃ e ∈ A, e.n = k
  · obtain ⟨e, he, rfl⟩ := hk
    have hnA : (A.map En.n).Nodup := h.names.nodup_iff.2 h.so.nd
    have h1 : timeOf A e.n = (e.t, true) := by unfold timeOf; rw [find_some hnA he]
    have h2 : e.nq ∈ R := h.pm.mem_iff.1 (List.mem_map.2 ⟨e, he, rfl⟩)
    rw [h1]
    exact (tOf_mem h.so.nd h2).symm
  · have h1 : timeOf A k = (0, false) := by unfold timeOf; rw [find_none (fun e he e2 => hk ⟨e, he, e2⟩)]
    rw [h1, tOf_none (fun p hp e => by
      obtain ⟨x, hx, hxe⟩ := List.mem_map.1 (h.pm.mem_iff.2 hp)
      exact hk ⟨x, hx, by rw [← e, ← hxe]; rfl⟩)]

theorem Rel.there (h : Rel G n now A R) (k : K5) : (handOf A k).2 = (tOf R k).2 := by
  rw [← h.time k]
  unfold handOf timeOf
  cases A.find? (fun e => decide (e.n = k)) <;> rfl

theorem Rel.due (h : Rel G n now A R) (h0 : 0 ≤ G) (h1 : G ≤ 6) (x : Int) {e now' : Int} (he : e = mx (cl x / pw G) n) (hn : now' = mx (cl x) now) :
    sortN ((dueA G e A).map En.n) = (dueR G now' R).map Prod.fst ∧ Rel G e now' (leftA G e A) (leftR G now' R) := by
  have hx := cl_bounds x
  have hb : 0 ≤ now' ∧ now' ≤ 1125899906842624 := by have := h.tm; rw [hn]; unfold mx; split <;> omega
  have hp := pw_cases h0 h1
  have hq : e = now' / pw G := by
    rw [he, hn, h.tm.1]
    have hpos : 0 < pw G := by omega
    unfold mx
    by_cases hc : cl x < now
    · have hle : cl x / pw G ≤ now / pw G := Int.ediv_le_ediv hpos (by omega)
      rw [if_pos hc]
      split <;> omega
    · have hle : now / pw G ≤ cl x / pw G := Int.ediv_le_ediv hpos (by omega)
      rw [if_neg hc]
      split <;> omega
  have hiff : ∀ y ∈ A, (sl G y.t ≤ e ↔ sl G y.t * pw G ≤ now') := fun y hy => by
    have hyR : y.nq ∈ R := h.pm.mem_iff.1 (List.mem_map.2 ⟨y, hy, rfl⟩)
    rw [hq]
    exact (due_facts h0 h1 (h.tb _ hyR).1 hb.1).1
  have hpd : ((dueA G e A).map En.nq).Perm (dueR G now' R) := by
    have h2 := h.pm.filter (fun p => decide (sl G p.2 * pw G ≤ now'))
    rw [List.filter_map] at h2
    have h3 : A.filter ((fun p : NT => decide (sl G p.2 * pw G ≤ now')) ∘ En.nq) = dueA G e A := List.filter_congr fun y hy => by
      show decide (sl G y.t * pw G ≤ now') = decide (sl G y.t ≤ e)
      rw [decide_eq_decide]
      exact (hiff y hy).symm
    rw [h3] at h2
    exact h2
  have hpl : ((leftA G e A).map En.nq).Perm (leftR G now' R) := by
    have h2 := h.pm.filter (fun p => decide (now' < sl G p.2 * pw G))
    rw [List.filter_map] at h2
    have h3 : A.filter ((fun p : NT => decide (now' < sl G p.2 * pw G)) ∘ En.nq) = leftA G e A := List.filter_congr fun y hy => by
      show decide (now' < sl G y.t * pw G) = decide (e < sl G y.t)
      rw [decide_eq_decide]
      have := hiff y hy
      omega
    rw [h3] at h2
    exact h2
  refine ⟨?_, h.so.filter _, hpl, ⟨hq, hb⟩, fun q hq => h.tb q (List.mem_filter.1 hq).1⟩
  refine ((h.so.filter _).sort ?_).symm
  have := hpd.symm.map Prod.fst
  rw [List.map_map] at this
  exact this

theorem Rel.all (h : Rel G n now A R) : sortN (A.map En.n) = R.map Prod.fst := (h.so.sort h.names.symm).symm
end

set_option maxHeartbeats 8000000 in
/-- Two rows of the same names. -/
theorem same_p {w : World} {P P2 : Nat → Prop} {v v2 : Value} {L : List K5} (h : Ns w P v L) (h2 : Nr w P2 v2 L) (hL : L.length ≤ 10000) :
    Calls Try.prog 39 #[v, v2] w fun e w' => e = .returned (.bool true) ∧ Only (fun _ => False) w w' := by
  have H1 := Lib.hid h
  have H2 := Lib.hid h2
  obtain ⟨A, c, hv, _⟩ := Row.form h
  obtain ⟨A2, c2, hv2, _⟩ := Row.form h2
  obtain ⟨M, hM⟩ : ∃ M, M = L.length := ⟨_, rfl⟩
  rw [← hM] at hv hv2
  subst hv hv2
  have HM := Lib.hid hM
  have hMb : M ≤ 10000 := by omega
  clear h h2 hM hL
  go_enter Try.func39, Try.ntmps39
  go_upto_region 4 with fail
  go_loopw [5] (fun v5 wr => ∃ i : Nat, v5 = .int .i64 (i : Int) ∧ i ≤ M ∧ Hid (Only (fun _ => False) w wr)) (fun v5 _ => M - (RowKit.intOf v5).toNat)
  case atStart => exact ⟨0, rfl, Nat.zero_le _, Lib.hid (Only.refl _ _)⟩
  case round =>
    obtain ⟨i, rfl, hi, HOc⟩ := hrel
    have hgo : i < M ∨ i = M := by omega
    rcases hgo with hlt | rfl
    · have hlt' : (i : Int) < (M : Int) := by omega
      have hio : i < L.length := by rw [← HM.out]; exact hlt
      have hge : L[i]? = some L[i] := List.getElem?_eq_getElem hio
      obtain ⟨k, hk⟩ : ∃ k, k = L[i] := ⟨_, rfl⟩
      rw [← hk] at hge
      obtain ⟨q, o, d, hs, _⟩ := Row.some_ H1.out (by omega)
      injection hs with s1 s2 s3
      subst s1 s3
      clear s2
      obtain ⟨q2, o2, d2, hs, _⟩ := Row.some_ H2.out (by omega)
      injection hs with s1 s2 s3
      subst s1 s3
      clear s2
      have HMI := Lib.hid (fun w => mine_p k w)
      unfold K5.v at HMI
      have hqk : eqK ⟨k.a, k.b, k.c, k.d, k.e⟩ ⟨k.a, k.b, k.c, k.d, k.e⟩ = true := (eqK_iff _ _).2 rfl
      have KE : Hid (∀ V, Only (fun _ => False) w V → (V.cell? ⟨q, o + i * 5, none⟩ = some (.int .i64 k.a) ∧ V.cell? ⟨q, o + i * 5 + 1, none⟩ = some (.int .i64 k.b) ∧ V.cell? ⟨q, o + i * 5 + 2, none⟩ = some (.int .i64 k.c) ∧ V.cell? ⟨q, o + i * 5 + 3, none⟩ = some (.int .i64 k.d) ∧ V.cell? ⟨q, o + i * 5 + 4, none⟩ = some (.int .i64 k.e)) ∧ V.cell? ⟨q2, o2 + i * 5, none⟩ = some (.int .i64 k.a) ∧ V.cell? ⟨q2, o2 + i * 5 + 1, none⟩ = some (.int .i64 k.b) ∧ V.cell? ⟨q2, o2 + i * 5 + 2, none⟩ = some (.int .i64 k.c) ∧ V.cell? ⟨q2, o2 + i * 5 + 3, none⟩ = some (.int .i64 k.d) ∧ V.cell? ⟨q2, o2 + i * 5 + 4, none⟩ = some (.int .i64 k.e)) := Lib.hid (fun V hV => ⟨Ns.at_ (H1.out.only hV (fun _ _ h => h)) HM.out hge, Nr.at_ (Row.only H2.out hV (fun _ _ h => h)) HM.out hge⟩)
      clear hge hk hio
      go_upto_region 6 with fail
      go_region_held3 (fun V => (V.cell? ⟨q, o + i * 5, none⟩ = some (.int .i64 k.a) ∧ V.cell? ⟨q, o + i * 5 + 1, none⟩ = some (.int .i64 k.b) ∧ V.cell? ⟨q, o + i * 5 + 2, none⟩ = some (.int .i64 k.c) ∧ V.cell? ⟨q, o + i * 5 + 3, none⟩ = some (.int .i64 k.d) ∧ V.cell? ⟨q, o + i * 5 + 4, none⟩ = some (.int .i64 k.e)) ∧ V.cell? ⟨q2, o2 + i * 5, none⟩ = some (.int .i64 k.a) ∧ V.cell? ⟨q2, o2 + i * 5 + 1, none⟩ = some (.int .i64 k.b) ∧ V.cell? ⟨q2, o2 + i * 5 + 2, none⟩ = some (.int .i64 k.c) ∧ V.cell? ⟨q2, o2 + i * 5 + 3, none⟩ = some (.int .i64 k.d) ∧ V.cell? ⟨q2, o2 + i * 5 + 4, none⟩ = some (.int .i64 k.e)) (first | exact KE.out _ HOc.out | exact KE.out _ HOc.out.drew) ((go_at_call 11; refine (HMI.out _).mono ?_; rintro en w4 ⟨rfl, ho⟩; have HOd : Hid (Only (fun _ => False) w w4) := Lib.hid (by first | exact HOc.out.trans ho | exact HOc.out.drew.trans ho); clear HOc ho; have HOc := HOd; clear HOd))
      go_wp2
      go_roundw
      case rel => exact ⟨i + 1, by go_num, by omega, HOc⟩
      case measure => simp [RowKit.intOf]; omega
    · have hge : ¬ (i : Int) < i := by omega
      go_wp2
      go_ret
      exact ⟨rfl, HOc.out⟩
end Go.Proofs.Ytmkcckkjkfmheaa.Al

/- Alarm: asked at once or in steps: laws. -/
import Derived.Test.YtmkcckkjkfmheaaAlI
set_option linter.unusedVariables false
set_option linter.unusedSimpArgs false
set_option maxRecDepth 100000
namespace Go.Proofs.Ytmkcckkjkfmheaa.Al
open Go.RowKit Go.Maps Go.Proofs.Ytmkcckkjkfmheaa.Base Go.Proofs.Ytmkcckkjkfmheaa.Rws Go.Proofs.Ytmkcckkjkfmheaa.Wh Go.Proofs.YtmkcckkjkfmheaaW.PrintWords Go.Proofs.YtmkcckkjkfmheaaW.PrintMore

/-- A row put behind a row. -/
theorem Ns.all {W : World} {P P2 : Nat → Prop} {v v2 : Value} {L L2 : List K5} (h : Ns W P v L) (h2 : Ns W P2 v2 L2) (hP : ∀ k, W.heap.size ≤ k → P k) (hb : L.length + L2.length ≤ 100000) (ty : TypeId) :
    ∃ v1 w1, (Builtin.append_ #[35, 35] ty #[v, v2]).run Try.prog W = .ok v1 w1 ∧ Ns w1 P v1 (L ++ L2) ∧ Only (fun k => v.ownBlock = some k) W w1 := by
  by_cases hn : L2.length = 0
  · obtain ⟨A, c, hv, _⟩ := Row.form h2
    rw [hn] at hv
    have h0 : L2 = [] := List.length_eq_zero_iff.1 hn
    rw [hv, h0, List.append_nil]
    exact ⟨v, W, Row.app0 h Try.underlying35 info33 A c, h, Only.refl _ _⟩
  · obtain ⟨q, o, c, hv, hc⟩ := Row.some_ h2 (by omega)
    unfold Ns at h2
    rw [hv] at h2 ⊢
    obtain ⟨v1, w1, hr, hR, ho⟩ := Row.app (ty := ty) h Try.underlying35 info33 (by rfl) hP ⟨q, o, none⟩ L2.length c (L2.flatMap encN) (flatN_len L2) (fun j u hu => by
      rw [Addr.add_lit]
      exact Row.cell h2 j hu) (fun u hu => by
      obtain ⟨t, _, ht⟩ := List.mem_flatMap.1 hu
      simp [encN] at ht
      rcases ht with rfl | rfl | rfl | rfl | rfl <;> rfl) (by omega) hb (by omega)
    refine ⟨v1, w1, hr, ?_, ho⟩
    unfold Ns
    rw [List.length_append, List.flatMap_append]
    exact hR

/-- What has been told piece by piece, up to a time e; what is left. -/
def Told (G e : Int) (A B : List En) (P : List K5) : Prop := B = A.filter (fun x => decide (e < sl G x.t)) ∧ P.Perm ((A.filter (fun x => decide (sl G x.t ≤ e))).map En.n)

theorem Told.start {G : Int} {A : List En} (h : ∀ x ∈ A, 0 ≤ sl G x.t) : Told G (-1) A A [] := by
  refine ⟨(List.filter_eq_self.2 (fun x hx => decide_eq_true (by have := h x hx; omega))).symm, ?_⟩
  rw [(List.filter_eq_nil_iff.2 (fun x hx => by have := h x hx; simp; omega))]
  exact .refl _

theorem Told.step {G e e' : Int} {A B : List En} {P : List K5} (h : Told G e A B P) (he : e ≤ e') : Told G e' A (leftA G e' B) (P ++ sortN ((dueA G e' B).map En.n)) := by
  obtain ⟨rfl, hp⟩ := h
  constructor
  · unfold leftA
    rw [List.filter_filter]
    refine List.filter_congr fun x _ => ?_
    by_cases h1 : e' < sl G x.t
    · have : e < sl G x.t := by omega
      simp [h1, this]
    · simp [h1]
  · refine (hp.append (sortN_perm _)).trans ?_
    rw [← List.map_append]
    refine List.Perm.map _ ?_
    unfold dueA
    rw [List.filter_filter]
    clear hp
    induction A with
    | nil => exact .refl _
    | cons x A ih =>
      by_cases h1 : sl G x.t ≤ e
      · have h2 : sl G x.t ≤ e' := by omega
        have h3 : ¬ e < sl G x.t := by omega
        simpa [h1, h2, h3] using ih
      · have h3 : e < sl G x.t := by omega
        by_cases h2 : sl G x.t ≤ e'
        · simp only [List.filter_cons, h1, h2, h3, decide_true, decide_false, Bool.and_self, if_true, Bool.false_eq_true, if_false]
          exact List.perm_middle.trans (ih.cons x)
        · simpa [h1, h2, h3] using ih

theorem Told.end_ {G e : Int} {A B : List En} {P : List K5} (h : Told G e A B P) : B = leftA G e A ∧ P.Perm (sortN ((dueA G e A).map En.n)) := ⟨h.1, h.2.trans (sortN_perm _).symm⟩

/-- One name is there once. -/
theorem once {L : List K5} (hn : L.Nodup) {k : K5} (hk : k ∈ L) : (L.filter (fun z => eqK z k)).length = 1 := by
  induction L with
  | nil => cases hk
  | cons x L ih =>
    rw [List.nodup_cons] at hn
    by_cases h : x = k
    · have e1 : eqK x k = true := (eqK_iff x k).2 h
      have e2 : L.filter (fun z => eqK z k) = [] := List.filter_eq_nil_iff.2 (fun z hz h2 => hn.1 (by rw [h, ← (eqK_iff z k).1 h2]; exact hz))
      simp [e1, e2]
    · have e1 : eqK x k = false := by rw [eqK_dec]; exact decide_eq_false h
      rw [List.filter_cons]
      simp only [e1, Bool.false_eq_true, if_false]
      rcases List.mem_cons.1 hk with h2 | h2
      · exact absurd h2.symm h
      · exact ih hn.2 h2

theorem Duo.beside {W w w' : World} {Keep : Nat → Obj → Prop} {G : Int} {pa pb : Nat} {Fa Fb S : Nat → Prop} {na la nb lb : Int} {A B : List En} (h : Duo W Keep G w pa Fa na la A pb Fb nb lb B) (ho : Only S w w') (hs : ∀ k, S k → W.heap.size ≤ k ∧ ¬ Fa k ∧ ¬ Fb k) (hk : ∀ g o, Keep g o → ¬ S g) : Duo W Keep G w' pa Fa na la A pb Fb nb lb B :=
  ⟨h.a.only ho (fun k hk h2 => (hs k h2).2.1 hk), h.b.only ho (fun k hk h2 => (hs k h2).2.2 hk), h.ap, h.fa, h.fb, h.on.then_ ho (fun k hk => .inr (hs k hk).1), fun g o hg => ⟨ho.blk (h.kp g o hg).1 (hk g o hg), (h.kp g o hg).2⟩⟩

theorem names_once {w : World} {p : Nat} {F : Nat → Prop} {G n last : Int} {A : List En} (h : AH w p F G n last A) (e : Int) : (sortN ((dueA G e A).map En.n)).Nodup := by
  refine (sortN_perm _).nodup_iff.2 ?_
  exact h.wfs.2.1.sublist ((List.filter_sublist).map _)

theorem due_len (G e : Int) (A : List En) : (sortN ((dueA G e A).map En.n)).length ≤ A.length := by
  rw [(sortN_perm _).length_eq, List.length_map]
  exact List.length_filter_le _ _

theorem AH.sl0 {w : World} {p : Nat} {F : Nat → Prop} {G n last : Int} {A : List En} (h : AH w p F G n last A) : ∀ x ∈ A, 0 ≤ sl G x.t := by
  obtain ⟨gw, bh, bn, bt, FW, hm, hw, hf, hF⟩ := h
  exact fun x hx => (hw.bd _ (List.mem_map.2 ⟨x, hx, rfl⟩)).1.1

theorem setA_len (A : List En) (k : K5) (t h : Int) : (setA A k t h).length ≤ A.length + 1 := by
  unfold setA
  rw [List.length_append, List.length_singleton]
  have := List.length_filter_le (fun x : En => decide (x.n ≠ k)) A
  omega

/-- Alarms of the document's, in a slice. -/
def InA (w : World) (A : Option Addr) (len : Nat) : Prop :=
  ∀ i : Nat, i < len → ∃ (a : Addr) (k : K5) (t : Int), A = some a ∧ k.wf ∧ ∀ V, Only (fun _ => False) w V → V.cell? (a.add (i * 6)) = some (.int .i64 k.a) ∧ V.cell? ⟨(a.add (i * 6)).block, (a.add (i * 6)).off + 1, none⟩ = some (.int .i64 k.b) ∧ V.cell? ⟨(a.add (i * 6)).block, (a.add (i * 6)).off + 2, none⟩ = some (.int .i64 k.c) ∧ V.cell? ⟨(a.add (i * 6)).block, (a.add (i * 6)).off + 3, none⟩ = some (.int .i64 k.d) ∧ V.cell? ⟨(a.add (i * 6)).block, (a.add (i * 6)).off + 4, none⟩ = some (.int .i64 k.e) ∧ V.cell? ⟨(a.add (i * 6)).block, (a.add (i * 6)).off + 5, none⟩ = some (.int .i64 t)

theorem cells44 : Try.prog.cellsOf 44 = 6 := by kernel_rfl

theorem cell_only {w V : World} {a : Addr} {v : Value} (h : w.cell? a = some v) (ho : Only (fun _ => False) w V) : V.cell? a = some v := by
  have := (ho.below (Below.refl _ _) (Nat.le_refl _) (fun _ h => h.elim)).cell (World.block_lt_of_cell? w _ h)
  rw [h] at this
  exact this
end Go.Proofs.Ytmkcckkjkfmheaa.Al

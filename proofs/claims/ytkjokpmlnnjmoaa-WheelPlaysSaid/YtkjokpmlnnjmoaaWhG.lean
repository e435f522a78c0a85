/- Wheel: each function in one word: what the wheel holds. -/
import Derived.Test.YtkjokpmlnnjmoaaWhW
set_option linter.unusedVariables false
set_option linter.unusedSimpArgs false
namespace Go.Proofs.Ytkjokpmlnnjmoaa.Wh
open Go.RowKit Go.Maps Go.Proofs.Ytkjokpmlnnjmoaa.Base Go.Proofs.Ytkjokpmlnnjmoaa.Rws Go.Proofs.YtkjokpmlnnjmoaaW.PrintWords Go.Proofs.YtkjokpmlnnjmoaaW.PrintMore
attribute [local go_sem] max2_mx min2_mn max_two min_two max_three min_three max_four min_four

abbrev KI : Kd Int := Kd.int .i64

/-- A wheel at g, at n, with these times and names. -/
def WH (w : World) (g : Nat) (F : Nat → Prop) (n last : Int) (K : List (Int × Int)) : Prop :=
  ∃ b L vals rows, WS w g b F n last L vals rows ∧ J n L rows [] ∧ (L.map key).Perm K ∧ (0 ≤ last ∧ last ≤ 100000) ∧ (∀ t ∈ L, 1 ≤ t.h ∧ t.h ≤ last) ∧ K.length ≤ 4096

theorem WH.only {w w' : World} {g : Nat} {F S : Nat → Prop} {n last : Int} {K : List (Int × Int)} (h : WH w g F n last K) (k : Only S w w') (hn : ∀ i, F i → ¬ S i) : WH w' g F n last K := by
  obtain ⟨b, L, vals, rows, hs, h2⟩ := h
  exact ⟨b, L, vals, rows, hs.only k hn, h2⟩

theorem WH.perm {w : World} {g : Nat} {F : Nat → Prop} {n last : Int} {K K' : List (Int × Int)} (h : WH w g F n last K) (hp : K.Perm K') : WH w g F n last K' := by
  obtain ⟨b, L, vals, rows, hs, h2, h3, h4, h5, h6⟩ := h
  exact ⟨b, L, vals, rows, hs, h2, h3.trans hp, h4, h5, by rw [← hp.length_eq]; exact h6⟩

theorem WH.flt {w : World} {g : Nat} {F : Nat → Prop} {n last : Int} {K : List (Int × Int)} (h : WH w g F n last K) (k : Nat) (hk : F k) : k < w.heap.size := by
  obtain ⟨b, L, vals, rows, hs, h2⟩ := h
  exact hs.flt k hk

theorem WH.nd {w : World} {g : Nat} {F : Nat → Prop} {n last : Int} {K : List (Int × Int)} (h : WH w g F n last K) : (K.map Prod.snd).Nodup := by
  obtain ⟨b, L, vals, rows, hs, h2, h3, h4, h5, h6⟩ := h
  have := h3.map Prod.snd
  rw [List.map_map] at this
  exact this.nodup_iff.1 h2.nd

theorem WH.n0 {w : World} {g : Nat} {F : Nat → Prop} {n last : Int} {K : List (Int × Int)} (h : WH w g F n last K) : 0 ≤ n ∧ n ≤ 1125899906842624 := by
  obtain ⟨b, L, vals, rows, hs, h2, h3, h4, h5, h6⟩ := h
  exact h2.n0

theorem WH.bd {w : World} {g : Nat} {F : Nat → Prop} {n last : Int} {K : List (Int × Int)} (h : WH w g F n last K) (p : Int × Int) (hp : p ∈ K) : (0 ≤ p.1 ∧ p.1 ≤ 1125899906842624) ∧ 1 ≤ p.2 ∧ p.2 ≤ last := by
  obtain ⟨b, L, vals, rows, hs, h2, h3, h4, h5, h6⟩ := h
  obtain ⟨t, ht, rfl⟩ := List.mem_map.1 (h3.mem_iff.2 hp)
  exact ⟨h2.bd t ht, h5 t ht⟩

theorem wh_new (x : Int) (w : World) : Calls Try.prog 10 #[.int .i64 x] w fun e w' => ∃ g F, e = .returned (.pointer (some ⟨g, 0, none⟩)) ∧ WH w' g F (cl x) 0 [] ∧ (∀ k, F k → w.heap.size ≤ k) ∧ Only (fun _ => False) w w' :=
  (new_p x w).mono fun e w' h => by
    obtain ⟨g, b, he, hs, h1, h2, ho⟩ := h
    refine ⟨g, _, he, ⟨b, [], _, _, hs, ?_, .refl _, by omega, fun t ht => (by cases ht), by simp⟩, fun k hk => (by rcases hk with rfl | rfl <;> assumption), ho⟩
    exact ⟨cl_bounds x, by simp, fun t ht => (by cases ht), fun t ht => (by cases ht), fun i => List.nodup_nil, fun i h => ⟨fun h => (by cases h), fun ⟨_, t, ht, _⟩ => (by cases ht)⟩⟩

theorem wh_len {w : World} {g : Nat} {F : Nat → Prop} {n last : Int} {K : List (Int × Int)} (h : WH w g F n last K) : Calls Try.prog 14 #[.pointer (some ⟨g, 0, none⟩)] w fun e w' => e = .returned (.int .i64 (K.length : Nat)) ∧ w = w' := by
  obtain ⟨b, L, vals, rows, hs, h2, h3, h4, h5, h6⟩ := h
  rw [← h3.length_eq, List.length_map]
  exact len_p hs.blk hs.map

theorem wh_now {w : World} {g : Nat} {F : Nat → Prop} {n last : Int} {K : List (Int × Int)} (h : WH w g F n last K) : Calls Try.prog 15 #[.pointer (some ⟨g, 0, none⟩)] w fun e w' => e = .returned (.int .i64 n) ∧ w = w' := by
  obtain ⟨b, L, vals, rows, hs, h2⟩ := h
  exact now_p hs.blk

theorem wh_add {w : World} {g : Nat} {F : Nat → Prop} {n last : Int} {K : List (Int × Int)} (x : Int) (h : WH w g F n last K) (hK : K.length < 4096) (hl : last < 100000) :
    Calls Try.prog 11 #[.pointer (some ⟨g, 0, none⟩), .int .i64 x] w fun e w' => e = .returned (.tuple #[.int .i64 (last + 1), .int .i64 0]) ∧ ∃ F', WH w' g F' n (last + 1) (K ++ [(cl x, last + 1)]) ∧ (∀ k, F' k → F k ∨ w.heap.size ≤ k) ∧ Only F w w' := by
  obtain ⟨b, L, vals, rows, hs, h2, h3, h4, h5, h6⟩ := h
  have hLK : L.length = K.length := by rw [← h3.length_eq, List.length_map]
  have hnew : ∀ y ∈ L, y.h ≠ last + 1 := fun y hy e => by have := h5 y hy; omega
  refine (add_p x hs (cl_same n h2.n0.1 h2.n0.2) h4.1 (by omega) (fun i => by have := h2.len i; omega) (by omega)).mono fun e w' hh => ?_
  obtain ⟨he, F', vals', hs', hf', ho'⟩ := hh
  have hj := h2.put ⟨cl x, last + 1, 0, 0⟩ (cl_bounds x) (fun i hm => by
    obtain ⟨_, t, ht, hh, _⟩ := (h2.mem i _).1 hm
    exact hnew t ht hh)
  refine ⟨he, F', ⟨b, _, vals', _, hs', hj, ?_, by omega, fun t ht => ?_, by rw [List.length_append, List.length_singleton]; omega⟩, hf', ho'⟩
  · rw [putL_new (t := ⟨cl x, last + 1, 0, 0⟩) hnew, List.map_append]
    exact h3.append_right _
  · rcases mem_putL.1 ht with ⟨h7, _⟩ | rfl
    · have := h5 t h7; omega
    · exact ⟨by show (1 : Int) ≤ last + 1; omega, by show last + 1 ≤ last + 1; omega⟩

theorem wh_full {w : World} {g : Nat} {F : Nat → Prop} {n last : Int} {K : List (Int × Int)} (x : Int) (h : WH w g F n last K) (hK : K.length = 4096) : Calls Try.prog 11 #[.pointer (some ⟨g, 0, none⟩), .int .i64 x] w fun e w' => e = .returned (.tuple #[.int .i64 0, .int .i64 6]) ∧ w = w' := by
  obtain ⟨b, L, vals, rows, hs, h2, h3, h4, h5, h6⟩ := h
  exact add_full x hs.blk hs.map (by rw [← hK, ← h3.length_eq, List.length_map])

theorem wh_adv {w : World} {g : Nat} {F : Nat → Prop} {n last : Int} {K : List (Int × Int)} (x : Int) (h : WH w g F n last K) {e : Int} (he : e = mx (cl x) n) :
    Calls Try.prog 12 #[.pointer (some ⟨g, 0, none⟩), .int .i64 x] w fun en w' => ∃ v F', en = .returned v ∧ Ks w' (fun k => w.heap.size ≤ k ∧ ¬ F' k) v (outK e K) ∧ WH w' g F' e last (restK e K) ∧ (∀ k, F' k → F k ∨ w.heap.size ≤ k) ∧ Only F w w' := by
  obtain ⟨b, L, vals, rows, hs, h2, h3, h4, h5, h6⟩ := h
  refine (adv_p x hs h2 (by rw [← h3.length_eq, List.length_map] at h6; exact h6) h3 he).mono fun en w' hh => ?_
  obtain ⟨v, F', vals', rows', L', hen, hk, hs', hj', hp', hf', ho'⟩ := hh
  refine ⟨v, F', hen, hk, ⟨b, L', vals', rows', hs', hj', hp', h4, fun t ht => ?_, Nat.le_trans (List.length_filter_le _ _) h6⟩, hf', ho'⟩
  have h7 : key t ∈ K := (List.mem_filter.1 (hp'.mem_iff.1 (List.mem_map.2 ⟨t, ht, rfl⟩))).1
  obtain ⟨t', ht', hk'⟩ := List.mem_map.1 (h3.mem_iff.2 h7)
  have : t'.h = t.h := congrArg Prod.snd hk'
  rw [← this]
  exact h5 t' ht'

theorem wh_cancel {w : World} {g : Nat} {F : Nat → Prop} {n last : Int} {K : List (Int × Int)} (k : Int) (hk : (Lit.int .i64 k).wf = true) (h : WH w g F n last K) :
    Calls Try.prog 18 #[.pointer (some ⟨g, 0, none⟩), .int .i64 k] w fun e w' => e = .returned (.bool (decide (k ∈ K.map Prod.snd))) ∧ ∃ F', WH w' g F' n last (K.filter (fun p => decide (p.2 ≠ k))) ∧ (∀ k, F' k → F k ∨ w.heap.size ≤ k) ∧ Only F w w' := by
  obtain ⟨b, L, vals, rows, hs, h2, h3, h4, h5, h6⟩ := h
  have hm := h3.map Prod.snd
  rw [List.map_map] at hm
  have hfilt : ((L.filter (fun x => decide (x.h ≠ k))).map key).Perm (K.filter (fun p => decide (p.2 ≠ k))) := by
    have := h3.filter (fun p => decide (p.2 ≠ k))
    rw [List.filter_map] at this
    exact this
  by_cases hin : ∃ t ∈ L, t.h = k
  · obtain ⟨t, ht, rfl⟩ := hin
    refine (cancel_p hs h2 ht (by have := h3.length_eq; rw [List.length_map] at this; omega)).mono fun e w' hh => ?_
    obtain ⟨he, F', vals', hs', hf', ho'⟩ := hh
    refine ⟨?_, F', ⟨b, _, vals', _, hs', h2.cut ht, hfilt, h4, fun t ht => h5 t (List.mem_filter.1 ht).1, Nat.le_trans (List.length_filter_le _ _) h6⟩, hf', ho'⟩
    have hin : t.h ∈ K.map Prod.snd := hm.mem_iff.1 (List.mem_map.2 ⟨t, ht, rfl⟩)
    rw [he, decide_eq_true hin]
  · have hno : ∀ t ∈ L, t.h ≠ k := fun t ht e => hin ⟨t, ht, e⟩
    refine (cancel_none k hk hs.blk hs.map hno).mono fun e w' hh => ?_
    obtain ⟨he, ho⟩ := hh
    refine ⟨?_, F, ⟨b, L, vals, rows, hs.only ho (fun _ _ h => h), h2, ?_, h4, h5, Nat.le_trans (List.length_filter_le _ _) h6⟩, fun k hk => .inl hk, ho.mono (fun _ h => h.elim)⟩
    · rw [he, decide_eq_false (fun hk => by
        obtain ⟨t, ht, hh⟩ := List.mem_map.1 (hm.mem_iff.2 hk)
        exact hno t ht hh)]
    · rw [List.filter_eq_self.2 (fun t ht => decide_eq_true (p := t.h ≠ k) (hno t ht))] at hfilt
      exact hfilt

theorem wh_time {w : World} {g : Nat} {F : Nat → Prop} {n last : Int} {K : List (Int × Int)} (k : Int) (hk : (Lit.int .i64 k).wf = true) (h : WH w g F n last K) :
    Calls Try.prog 20 #[.pointer (some ⟨g, 0, none⟩), .int .i64 k] w fun e w' => ((∃ a, (a, k) ∈ K ∧ e = .returned (.tuple #[.int .i64 a, .bool true])) ∨ ((∀ p ∈ K, p.2 ≠ k) ∧ e = .returned (.tuple #[.int .i64 0, .bool false]))) ∧ Only (fun _ => False) w w' := by
  obtain ⟨b, L, vals, rows, hs, h2, h3, h4, h5, h6⟩ := h
  refine (time_p k hk hs.blk hs.map).mono fun e w' hh => ?_
  obtain ⟨h7, ho⟩ := hh
  refine ⟨?_, ho⟩
  rcases h7 with ⟨t, ht, rfl, he⟩ | ⟨hno, he⟩
  · exact .inl ⟨t.at_, h3.mem_iff.1 (List.mem_map.2 ⟨t, ht, rfl⟩), he⟩
  · refine .inr ⟨fun p hp e2 => ?_, he⟩
    obtain ⟨t, ht, rfl⟩ := List.mem_map.1 (h3.mem_iff.2 hp)
    exact hno t ht e2

theorem wh_first {w : World} {g : Nat} {F : Nat → Prop} {n last : Int} {K : List (Int × Int)} (h : WH w g F n last K) (hne : K ≠ []) :
    Calls Try.prog 17 #[.pointer (some ⟨g, 0, none⟩)] w fun e w' => ∃ m, e = .returned (.tuple #[.int .i64 m, .bool true]) ∧ (∀ p ∈ K, m ≤ p.1) ∧ (∃ p ∈ K, m = p.1) ∧ Only (fun _ => False) w w' := by
  obtain ⟨b, L, vals, rows, hs, h2, h3, h4, h5, h6⟩ := h
  refine (first_p hs.blk hs.map (fun e => hne (by rw [e] at h3; exact (List.nil_perm.1 h3))) (fun t ht => (h2.bd t ht).2)).mono fun e w' hh => ?_
  obtain ⟨m, he, hall, ⟨t, ht, hm⟩, ho⟩ := hh
  refine ⟨m, he, fun p hp => ?_, ⟨key t, h3.mem_iff.1 (List.mem_map.2 ⟨t, ht, rfl⟩), hm⟩, ho⟩
  obtain ⟨t, ht, rfl⟩ := List.mem_map.1 (h3.mem_iff.2 hp)
  exact hall t ht

theorem wh_first0 {w : World} {g : Nat} {F : Nat → Prop} {n last : Int} (h : WH w g F n last []) :
    Calls Try.prog 17 #[.pointer (some ⟨g, 0, none⟩)] w fun e w' => e = .returned (.tuple #[.int .i64 0, .bool false]) ∧ w = w' := by
  obtain ⟨b, L, vals, rows, hs, h2, h3, h4, h5, h6⟩ := h
  have hm := hs.map
  rw [List.map_eq_nil_iff.1 (List.perm_nil.1 h3)] at hm
  exact first_none hs.blk hm

/-! ### What is added in turn -/
def added (l : List Int) : List (Int × Int) := l.zipIdx.map (fun p => (cl p.1, (p.2 : Int) + 1))

theorem added_step {l : List Int} {j : Nat} {x : Int} (h : l[j]? = some x) : added (l.take (j + 1)) = added (l.take j) ++ [(cl x, (j : Int) + 1)] := by
  have hlt := (List.getElem?_eq_some_iff.1 h).1
  unfold added
  rw [List.take_add_one, h, Option.toList_some, List.zipIdx_append, List.map_append, List.length_take, Nat.min_eq_left (by omega)]
  simp

theorem added_len (l : List Int) : (added l).length = l.length := by simp [added]

theorem added_mem {l : List Int} {p : Int × Int} : p ∈ added l ↔ ∃ j : Nat, ∃ x, l[j]? = some x ∧ p = (cl x, (j : Int) + 1) := by
  unfold added
  rw [List.mem_map]
  constructor
  · rintro ⟨⟨x, j⟩, hm, rfl⟩
    exact ⟨j, x, List.mem_zipIdx_iff_getElem?.1 hm, rfl⟩
  · rintro ⟨j, x, hm, rfl⟩
    exact ⟨(x, j), List.mem_zipIdx_iff_getElem?.2 hm, rfl⟩

theorem clampR_p (a : Int) (w : World) : Calls Try.prog 13 #[.int .i64 a] w fun e w' => e = .returned (.int .i64 (cl a)) ∧ w = w' := by
  unfold cl
  split
  · go_enter Try.func13, Try.ntmps13
    go_wp2
    go_ret
    exact ⟨rfl, rfl⟩
  · split
    · go_enter Try.func13, Try.ntmps13
      go_wp2
      go_ret
      exact ⟨rfl, rfl⟩
    · go_enter Try.func13, Try.ntmps13
      go_wp2
      go_ret
      exact ⟨rfl, rfl⟩

theorem below_of {w w' : World} (h : Only (fun _ => False) w w') : Below w.heap.size w w' := h.below (Below.refl _ _) (Nat.le_refl _) (fun _ h => h.elim)

end Go.Proofs.Ytkjokpmlnnjmoaa.Wh

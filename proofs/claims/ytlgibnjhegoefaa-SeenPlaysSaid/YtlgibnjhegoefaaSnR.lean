/- The reference's Has and Mark. -/
import Derived.Test.YtlgibnjhegoefaaSnO
import Derived.Test.YtlgibnjhegoefaaRws
set_option linter.unusedVariables false
set_option linter.unusedSimpArgs false
namespace Go.Proofs.Ytlgibnjhegoefaa.Sn
open Go.RowKit Go.Maps Go.Proofs.Ytlgibnjhegoefaa.Base Go.Proofs.Ytlgibnjhegoefaa.Rws Go.Proofs.YtlgibnjhegoefaaW.PrintWords Go.Proofs.YtlgibnjhegoefaaW.PrintMore
attribute [local go_sem] max2_mx min2_mn max_two min_two max_three min_three max_four min_four

theorem eql25 (j k : K4) (w : World) : (binOp .eql 25 (.agg #[.int .i64 j.a, .int .i64 j.b, .int .i64 j.c, .int .i64 j.d]) (.agg #[.int .i64 k.a, .int .i64 k.b, .int .i64 k.c, .int .i64 k.d])).run Try.prog w = .ok (.bool (decide (j = k))) w := by
  rw [run_eql_struct, eq25]
  rfl

/-- An item's cells. -/
def encI (p : K4 × Int) : List Value := [.int .i64 p.1.a, .int .i64 p.1.b, .int .i64 p.1.c, .int .i64 p.1.d, .int .i64 p.2]

theorem encI_at : ∀ (L : List (K4 × Int)) (i j : Nat) (p : K4 × Int), L[i]? = some p → j < 5 → (L.flatMap encI)[i * 5 + j]? = (encI p)[j]?
  | [], i, j, p, h, _ => by simp at h
  | q :: L, 0, j, p, h, hj => by
    simp at h
    subst h
    rw [List.flatMap_cons, List.getElem?_append_left (by simp [encI]; omega)]
    congr 1
    omega
  | q :: L, i + 1, j, p, h, hj => by
    have := encI_at L i j p (by simpa using h) hj
    rw [List.flatMap_cons, List.getElem?_append_right (by simp [encI]; omega), ← this]
    congr 1
    simp [encI]
    omega

theorem encI_len (L : List (K4 × Int)) : (L.flatMap encI).length = L.length * 5 := by
  induction L with
  | nil => rfl
  | cons q L ih => rw [List.flatMap_cons, List.length_append, ih]; simp [encI]; omega

/-- The reference's block and its items. -/
def RB (w : World) (h : Nat) (v : Value) : Prop := w.heap[h]? = some (.cells #[v] 39 (0, 0))

def Items (w : World) (P : Nat → Prop) (v : Value) (L : List (K4 × Int)) : Prop := Row 5 50 w P v L.length (L.flatMap encI)

set_option maxHeartbeats 1000000 in
theorem has_r {h : Nat} {v : Value} {P : Nat → Prop} {L : List (K4 × Int)} (w : World) (hb : RB w h v) (hL : Items w P v L) (hl : L.length ≤ 1000) (k : K4) :
    Calls Try.prog 14 #[.pointer (some ⟨h, 0, none⟩), k.v] w fun e w' => e = .returned (.bool (kept L k)) ∧ Only (fun _ => False) w w' := by
  obtain ⟨A, c, rfl, hnc⟩ := hL.form
  have HO1 : Hid (Only (fun _ => False) w (w.alloc (.cells #[.int .i64 k.a, .int .i64 k.b, .int .i64 k.c, .int .i64 k.d] 25))) := Lib.hid ((Only.refl _ w).alloc _)
  have HK := Lib.hid (heap_alloc_new w (.cells #[.int .i64 k.a, .int .i64 k.b, .int .i64 k.c, .int .i64 k.d] 25))
  obtain ⟨n, hn⟩ : ∃ n, n = L.length := ⟨_, rfl⟩
  rw [← hn] at hb hl hnc
  have HB := Lib.hid (HO1.out.blk hb (fun h => h))
  have HL := Lib.hid (hL.only HO1.out (fun _ _ h => h))
  rw [← hn] at HL
  have HN := Lib.hid hn
  clear hb hL hn
  unfold K4.v
  go_enter Try.func14, Try.ntmps14
  go_wp2_with fail
  generalize w.alloc (.cells #[.int .i64 k.a, .int .i64 k.b, .int .i64 k.c, .int .i64 k.d] 25) = w1 at *
  generalize w.heap.size = q at *
  go_loopw [5] (fun vi wr => ∃ i : Nat, vi = .int .i64 (i : Int) ∧ i ≤ n ∧ Hid (∀ j, j < i → ∀ p, L[j]? = some p → p.1 ≠ k) ∧ Hid (∃ m, wr = w1.drewN m)) (fun vi _ => n - (intOf vi).toNat)
  case atStart => exact ⟨0, rfl, by omega, Lib.hid (fun j hj => by omega), Lib.hid ⟨0, rfl⟩⟩
  case round =>
    obtain ⟨i, rfl, hi, HNO, HW⟩ := hrel
    have HBr : Hid (RB wr h (.slice A n c)) := Lib.hid (by obtain ⟨m, rfl⟩ := HW.out; exact HB.out)
    have HKr : Hid (wr.heap[q]? = some (.cells #[.int .i64 k.a, .int .i64 k.b, .int .i64 k.c, .int .i64 k.d] 25 (0, 0))) := Lib.hid (by obtain ⟨m, rfl⟩ := HW.out; exact HK.out)
    have HLr : Hid (Row 5 50 wr P (.slice A n c) n (L.flatMap encI)) := Lib.hid (by obtain ⟨m, rfl⟩ := HW.out; exact HL.out)
    have hc0 : wr.cell? ⟨h, 0, none⟩ = some (.slice A n c) := cell_at HBr.out 0 rfl
    have hk0 : wr.cell? ⟨q, 0, none⟩ = some (.int .i64 k.a) := cell_at HKr.out 0 rfl
    have hk1 : wr.cell? ⟨q, 1, none⟩ = some (.int .i64 k.b) := cell_at HKr.out 1 rfl
    have hk2 : wr.cell? ⟨q, 2, none⟩ = some (.int .i64 k.c) := cell_at HKr.out 2 rfl
    have hk3 : wr.cell? ⟨q, 3, none⟩ = some (.int .i64 k.d) := cell_at HKr.out 3 rfl
    have hgo : i < n ∨ i = n := by omega
    rcases hgo with hlt | rfl
    · have hlt' : (i : Int) < n := by omega
      obtain ⟨p, hp⟩ : ∃ p, L[i]? = some p := ⟨L[i]'(by have := HN.out; omega), List.getElem?_eq_getElem _⟩
      obtain ⟨g, o, c', hv, _⟩ := HLr.out.some_ (by omega)
      injection hv with e1 e2 e3
      subst e1 e3
      have HP := Lib.hid hp
      obtain ⟨j, x⟩ := p
      have hd0 : wr.cell? ⟨g, o + i * 5, none⟩ = some (.int .i64 j.a) := HLr.out.cell (i * 5) (encI_at L i 0 _ HP.out (by omega))
      have hd1 : wr.cell? ⟨g, o + i * 5 + 1, none⟩ = some (.int .i64 j.b) := HLr.out.cell (i * 5 + 1) (encI_at L i 1 _ HP.out (by omega))
      have hd2 : wr.cell? ⟨g, o + i * 5 + 2, none⟩ = some (.int .i64 j.c) := HLr.out.cell (i * 5 + 2) (encI_at L i 2 _ HP.out (by omega))
      have hd3 : wr.cell? ⟨g, o + i * 5 + 3, none⟩ = some (.int .i64 j.d) := HLr.out.cell (i * 5 + 3) (encI_at L i 3 _ HP.out (by omega))
      clear hp
      by_cases hjk : j = k
      · subst hjk
        have heq : ∀ w, (binOp .eql 25 (.agg #[.int .i64 j.a, .int .i64 j.b, .int .i64 j.c, .int .i64 j.d]) (.agg #[.int .i64 j.a, .int .i64 j.b, .int .i64 j.c, .int .i64 j.d])).run Try.prog w = .ok (.bool true) w := fun w => by rw [eql25]; simp
        go_wp2
        go_quiet (fail)
        go_wp2
        go_ret
        have hkt : kept L j = true := List.any_eq_true.2 ⟨(j, x), List.mem_of_getElem? HP.out, by simp⟩
        rw [hkt]
        exact ⟨rfl, by obtain ⟨m, rfl⟩ := HW.out; exact (HO1.out.drewN _).drewN _⟩
      · have heq : ∀ w, (binOp .eql 25 (.agg #[.int .i64 j.a, .int .i64 j.b, .int .i64 j.c, .int .i64 j.d]) (.agg #[.int .i64 k.a, .int .i64 k.b, .int .i64 k.c, .int .i64 k.d])).run Try.prog w = .ok (.bool false) w := fun w => by rw [eql25]; simp [hjk]
        go_wp2
        go_quiet (fail)
        go_wp2
        go_roundw
        case rel =>
          refine ⟨i + 1, by go_num, by omega, Lib.hid (fun j' hj' p' hp' => ?_), Lib.hid (by obtain ⟨m, rfl⟩ := HW.out; exact ⟨m + nq, by simp⟩)⟩
          by_cases he : j' = i
          · subst he
            rw [HP.out] at hp'
            simp at hp'
            subst hp'
            exact hjk
          · exact HNO.out j' (by omega) p' hp'
        case measure => simp [intOf]; omega
    · go_wp2
      go_ret
      have hkf : kept L k = false := by
        refine Bool.eq_false_iff.2 fun ht => ?_
        obtain ⟨p, hp, he⟩ := List.any_eq_true.1 ht
        obtain ⟨j, hj⟩ := List.getElem?_of_mem hp
        exact HNO.out j (by rw [HN.out]; exact (List.getElem?_eq_some_iff.1 hj).1) p hj (by simpa using he)
      rw [hkf]
      exact ⟨rfl, by obtain ⟨m, rfl⟩ := HW.out; exact HO1.out.drewN _⟩

/-- What is left of the first i. -/
def Fl (L : List (K4 × Int)) (n : Int) (i : Nat) : List (K4 × Int) := (L.take i).filter (fun p => decide (n < p.2))

theorem Fl_succ {L : List (K4 × Int)} {n : Int} {i : Nat} {p : K4 × Int} (h : L[i]? = some p) : Fl L n (i + 1) = if n < p.2 then Fl L n i ++ [p] else Fl L n i := by
  unfold Fl
  rw [List.take_add_one, h, Option.toList_some, List.filter_append]
  by_cases hp : n < p.2 <;> simp [hp]

theorem Fl_le (L : List (K4 × Int)) (n : Int) (i : Nat) : (Fl L n i).length ≤ i := by
  have := List.length_filter_le (fun p : K4 × Int => decide (n < p.2)) (L.take i)
  rw [List.length_take] at this
  unfold Fl
  omega

theorem info50 : (Try.prog.info? 50).map (fun i => (i.zero, i.size, i.bytes)) = some (some (.agg #[.int .i64 0, .int .i64 0, .int .i64 0, .int .i64 0, .int .i64 0]), 5, 40) := by kernel_rfl

/-- An item is put behind items. -/
theorem Items.app {W : World} {P : Nat → Prop} {v : Value} {L : List (K4 × Int)} (h : Items W P v L) (hP : ∀ k, W.heap.size ≤ k → P k) (hl : L.length ≤ 2000) (j : K4) (x : Int) (ty : TypeId) :
    ∃ v1 w1, (Builtin.append_ #[37, 37] ty #[v, .slice (some ⟨W.heap.size, 0, none⟩) 1 1]).run Try.prog (W.alloc (.cells #[.int .i64 j.a, .int .i64 j.b, .int .i64 j.c, .int .i64 j.d, .int .i64 x] 50)) = .ok v1 w1 ∧ Items w1 P v1 (L ++ [(j, x)]) ∧ Only (fun k => v.ownBlock = some k) W w1 := by
  have hO : Only (fun k => v.ownBlock = some k) W (W.alloc (.cells #[.int .i64 j.a, .int .i64 j.b, .int .i64 j.c, .int .i64 j.d, .int .i64 x] 50)) := (Only.refl _ W).alloc _
  have hnew := heap_alloc_new W (.cells #[.int .i64 j.a, .int .i64 j.b, .int .i64 j.c, .int .i64 j.d, .int .i64 x] 50)
  have hrow : Row 5 50 (W.alloc (.cells #[.int .i64 j.a, .int .i64 j.b, .int .i64 j.c, .int .i64 j.d, .int .i64 x] 50)) P v L.length (L.flatMap encI) := Row.keep h (fun g _ hg => heap_alloc_old W _ hg)
  have hsz : (W.alloc (.cells #[.int .i64 j.a, .int .i64 j.b, .int .i64 j.c, .int .i64 j.d, .int .i64 x] 50)).heap.size = W.heap.size + 1 := by show (W.heap.push _).size = _; simp
  generalize W.alloc (.cells #[.int .i64 j.a, .int .i64 j.b, .int .i64 j.c, .int .i64 j.d, .int .i64 x] 50) = W1 at *
  obtain ⟨v1, w1, hr, hR, ho⟩ := Row.app (ty := ty) hrow Try.underlying37 info50 (by rfl) (fun k hk => hP k (by omega)) ⟨W.heap.size, 0, none⟩ 1 1 (encI (j, x)) (by simp [encI]) (fun i u hu => by
    rw [Addr.add_lit, Nat.zero_add]
    refine cell_at hnew i ?_
    simpa [encI] using hu) (by simp [encI, Value.oneCell']) (by omega) (by omega) (by omega)
  refine ⟨v1, w1, hr, ?_, hO.trans ho⟩
  unfold Items
  rw [List.length_append, List.length_singleton, List.flatMap_append]
  simpa using hR

end Go.Proofs.Ytlgibnjhegoefaa.Sn

/- Wheel: the document's Add. -/
import Derived.Test.YtkjokpmlnnjmoaaWra
set_option linter.unusedVariables false
set_option linter.unusedSimpArgs false
namespace Go.Proofs.Ytkjokpmlnnjmoaa.Wh
open Go.RowKit Go.Maps Go.Proofs.Ytkjokpmlnnjmoaa.Base Go.Proofs.Ytkjokpmlnnjmoaa.Rws Go.Proofs.YtkjokpmlnnjmoaaW.PrintWords Go.Proofs.YtkjokpmlnnjmoaaW.PrintMore
attribute [local go_sem] max2_mx min2_mn max_two min_two max_three min_three max_four min_four

theorem Rs.app {W : World} {P : Nat → Prop} {v : Value} {L : List (Int × Int)} (h : Rs W P v L) (hP : ∀ k, W.heap.size ≤ k → P k) (hl : L.length ≤ 20000) (x : Int × Int) (ty : TypeId) :
    ∃ A c w1, (Builtin.append_ #[42, 42] ty #[v, .slice (some ⟨W.heap.size, 0, none⟩) 1 1]).run Try.prog (W.alloc (.cells #[.int .i64 x.1, .int .i64 x.2] 49)) = .ok (.slice A (L.length + 1) c) w1 ∧ Rs w1 P (.slice A (L.length + 1) c) (L ++ [x]) ∧ Only (fun k => v.ownBlock = some k) W w1 := by
  have hO : Only (fun k => v.ownBlock = some k) W (W.alloc (.cells #[.int .i64 x.1, .int .i64 x.2] 49)) := (Only.refl _ W).alloc _
  have hnew := heap_alloc_new W (.cells #[.int .i64 x.1, .int .i64 x.2] 49)
  have hrow : Rs (W.alloc (.cells #[.int .i64 x.1, .int .i64 x.2] 49)) P v L := Row.keep h (fun g _ hg => heap_alloc_old W _ hg)
  have hsz : (W.alloc (.cells #[.int .i64 x.1, .int .i64 x.2] 49)).heap.size = W.heap.size + 1 := by show (W.heap.push _).size = _; simp
  generalize W.alloc (.cells #[.int .i64 x.1, .int .i64 x.2] 49) = W1 at *
  obtain ⟨v1, w1, hr, hR, ho⟩ := Rs.all hrow (Rs.one (P := fun _ => True) hnew trivial) (fun k hk => hP k (by omega)) (by rw [List.length_singleton]; omega) ty
  obtain ⟨A, c, hv, _⟩ := Row.form hR
  rw [List.length_append, List.length_singleton] at hv
  subst hv
  exact ⟨A, c, w1, hr, hR, hO.trans ho⟩

theorem radd_full {w : World} {r : Nat} {G : Nat → Prop} {n last : Int} {v : Value} {L : List (Int × Int)} (x : Int) (h : RS w r G n last v L) (hL : L.length = 4096) :
    Calls Try.prog 34 #[.pointer (some ⟨r, 0, none⟩), .int .i64 x] w fun e w' => e = .returned (.tuple #[.int .i64 0, .int .i64 6]) ∧ w = w' := by
  obtain ⟨A, c, hv, _⟩ := Row.form h.row
  rw [hL] at hv
  subst hv
  have hx := h.val
  clear h hL
  go_enter Try.func34, Try.ntmps34
  go_wp2
  go_ret2
  exact ⟨rfl, rfl⟩

/-- Behind all that are not later. -/
def insR (a t : Int) (R : List (Int × Int)) : List (Int × Int) := R.filter (fun p => decide (p.1 ≤ a)) ++ (a, t) :: R.filter (fun p => decide (a < p.1))

/-- What has been put so far. -/
def Laid (a t : Int) (R : List (Int × Int)) (i : Nat) (b : Bool) (l : List (Int × Int)) : Prop :=
  (b = false ∧ (∀ p ∈ R.take i, p.1 ≤ a) ∧ l = R.take i) ∨ (b = true ∧ (∃ p ∈ R.take i, a < p.1) ∧ l = insR a t (R.take i))

theorem Laid.len {a t : Int} {R : List (Int × Int)} {i : Nat} {b : Bool} {l : List (Int × Int)} (h : Laid a t R i b l) : l.length ≤ R.length + 1 := by
  have ht := List.length_take_le' i R
  rcases h with ⟨_, _, rfl⟩ | ⟨_, _, rfl⟩
  · omega
  · unfold insR
    have h1 := (List.filter_append_perm (fun p : Int × Int => decide (p.1 ≤ a)) (R.take i)).length_eq
    have e : (R.take i).filter (fun x => !decide (x.1 ≤ a)) = (R.take i).filter (fun p => decide (a < p.1)) := List.filter_congr (fun p _ => by
      by_cases h : p.1 ≤ a
      · have h' : ¬ a < p.1 := by omega
        simp [h, h']
      · have h' : a < p.1 := by omega
        simp [h, h'])
    rw [e, List.length_append] at h1
    rw [List.length_append, List.length_cons]
    omega

section
variable {a t : Int} {R : List (Int × Int)} {i : Nat} {b : Bool} {l : List (Int × Int)} {p : Int × Int}
theorem Laid.low (h : Laid a t R i false l) (hp : R[i]? = some p) (hle : p.1 ≤ a) : Laid a t R (i + 1) false (l ++ [p]) := by
  rcases h with ⟨_, h2, rfl⟩ | ⟨h, _⟩
  · refine .inl ⟨rfl, fun q hq => ?_, by rw [List.take_add_one, hp]; rfl⟩
    rw [List.take_add_one, hp] at hq
    rcases List.mem_append.1 hq with h1 | h1
    · exact h2 q h1
    · simp at h1; rw [h1]; exact hle
  · cases h

theorem Laid.first (h : Laid a t R i false l) (hp : R[i]? = some p) (hlt : a < p.1) : Laid a t R (i + 1) true (l ++ [(a, t)] ++ [p]) := by
  rcases h with ⟨_, h2, rfl⟩ | ⟨h, _⟩
  · have hnle : ¬ p.1 ≤ a := by omega
    refine .inr ⟨rfl, ⟨p, by rw [List.take_add_one, hp]; simp, hlt⟩, ?_⟩
    unfold insR
    rw [List.take_add_one, hp, Option.toList_some, List.filter_append, List.filter_append, List.filter_eq_self.2 (fun q hq => decide_eq_true (h2 q hq)), (List.filter_eq_nil_iff.2 (fun q hq => by have := h2 q hq; simp; omega) : (R.take i).filter (fun p => decide (a < p.1)) = [])]
    simp [hlt, hnle]
  · cases h

theorem Laid.high (h : Laid a t R i true l) (hs : R.Pairwise (fun a b => a.1 ≤ b.1)) (hp : R[i]? = some p) : Laid a t R (i + 1) true (l ++ [p]) := by
  rcases h with ⟨h, _⟩ | ⟨_, ⟨q, hq, hlt⟩, rfl⟩
  · cases h
  · have hpl : a < p.1 := by
      obtain ⟨k, hk, hke⟩ := List.getElem_of_mem hq
      rw [List.length_take] at hk
      rw [List.getElem_take] at hke
      obtain ⟨hi, he⟩ := List.getElem?_eq_some_iff.1 hp
      rw [List.pairwise_iff_getElem] at hs
      have := hs k i (by omega) hi (by omega)
      rw [hke, he] at this
      omega
    have hnle : ¬ p.1 ≤ a := by omega
    refine .inr ⟨rfl, ⟨q, by rw [List.take_add_one]; exact List.mem_append.2 (.inl hq), hlt⟩, ?_⟩
    unfold insR
    rw [List.take_add_one, hp, Option.toList_some, List.filter_append, List.filter_append]
    simp [hpl, hnle]
end

set_option maxHeartbeats 8000000 in
set_option maxRecDepth 100000 in
theorem rput_p {w : World} {r : Nat} {G : Nat → Prop} {n last : Int} {v : Value} {R : List (Int × Int)} (x : Int) (h : RS w r G n last v R) (hL : R.length < 4096) (h0 : 0 ≤ last) (h1 : last ≤ 1000000) (hs : R.Pairwise (fun a b => a.1 ≤ b.1)) :
    Calls Try.prog 34 #[.pointer (some ⟨r, 0, none⟩), .int .i64 x] w fun e w' => e = .returned (.tuple #[.int .i64 (last + 1), .int .i64 0]) ∧ PostR w r G n (last + 1) (insR (cl x) (last + 1) R) w' := by
  have HR := Lib.hid h
  have HC : Hid (∀ w, Calls Try.prog 13 #[.int .i64 x] w fun e w' => e = .returned (.int .i64 (cl x)) ∧ w' = w) := Lib.hid (fun w => (clampR_p x w).mono fun _ _ h => ⟨h.1, h.2.symm⟩)
  obtain ⟨a, ha⟩ : ∃ a, a = cl x := ⟨_, rfl⟩
  rw [← ha] at HC ⊢
  obtain ⟨A, c, hv, hnc⟩ := Row.form h.row
  obtain ⟨N, hN⟩ : ∃ N, N = R.length := ⟨_, rfl⟩
  rw [← hN] at hv
  subst hv
  have HN := Lib.hid hN
  have hNb : N < 4096 := by omega
  have hlt0 : (N : Int) < 4096 := by omega
  have HS := Lib.hid hs
  have hz1 := h.lst
  have hz2 := h.val
  have hf1 := h.frozen 1
  obtain ⟨t, ht⟩ : ∃ t, t = last + 1 := ⟨_, rfl⟩
  have HT := Lib.hid ht
  obtain ⟨w1, hw1⟩ : ∃ w1, w1 = w.setCell ⟨r, 1, none⟩ (.int .i64 (last + 1)) := ⟨_, rfl⟩
  have ho1 : Only (fun k => k = r) w w1 := by rw [hw1]; exact (Only.refl (fun k => k = r) w).setCell (p := ⟨r, 1, none⟩) (.inl rfl) _
  have hS1 : RS w1 r G n (last + 1) (.slice A N c) R := ⟨by rw [hw1]; exact blk_set h.blk 1 _, Row.only h.row ho1 (fun q hq e => h.ne (by rw [hq, e])), h.gr, fun k hk => Nat.lt_of_lt_of_le (h.flt k hk) ho1.size⟩
  have HS1 := Lib.hid hS1
  have hy1 := hS1.lst
  have HO1 := Lib.hid ho1
  clear h hL hN hs ha ho1 hS1 ht hnc
  go_enter Try.func34, Try.ntmps34
  go_upto_region 4 with fail
  rw [← hw1]
  clear hw1 hz1 hz2 hf1
  have hka : ∀ (W : World) (o : Obj), W.cell? ⟨r, 1, none⟩ = some (.int .i64 (last + 1)) → (W.alloc o).cell? ⟨r, 1, none⟩ = some (.int .i64 (last + 1)) := fun W o h => ((Only.refl (fun _ => False) W).alloc o).cell h (fun h => h)
  have hka2 : ∀ (W : World) (o : Obj), W.cell? ⟨r, 1, none⟩ = some (.int .i64 (last + 1)) → ((W.alloc o).drew).cell? ⟨r, 1, none⟩ = some (.int .i64 (last + 1)) := fun W o h => hka W o h
  go_region_held3 (fun w' => w'.cell? ⟨r, 1, none⟩ = some (.int .i64 (last + 1))) (first | exact hy1 | exact hka _ _ hy1 | exact hka2 _ _ hy1) (first | (go_at_call 13; refine (HC.out _).mono ?_; rintro e w' ⟨rfl, rfl⟩))
  all_goals
    go_upto_region 8 with fail
    obtain ⟨B, hB⟩ : ∃ B, B = w1.heap.size := ⟨_, rfl⟩
    obtain ⟨w2, hw2⟩ : ∃ w2, w2 = (w1.alloc (.cells #[.int .i64 a, .int .i64 (last + 1)] 49)).drew := ⟨_, rfl⟩
    rw [← hB, ← hw2]
    have HO2 : Hid (Only (fun _ => False) w1 w2) := by rw [hw2]; exact Lib.hid ((Only.refl _ w1).alloc _).drew
    have HB2 : Hid (w2.heap[B]? = some (.cells #[.int .i64 a, .int .i64 (last + 1)] 49 (0, 0))) := by rw [hw2, hB]; exact Lib.hid (heap_alloc_new w1 _)
    have HS2 := Lib.hid (HS1.out.only HO2.out (fun _ _ h => h))
    have HF : Hid (∀ W, Only (fun _ => False) w2 W → W.cell? ⟨r, 2, none⟩ = some (.slice A N c) ∧ W.cell? ⟨B, 0, none⟩ = some (.int .i64 a) ∧ W.cell? ⟨B, 1, none⟩ = some (.int .i64 (last + 1))) := Lib.hid (fun W ho => ⟨(HS2.out.only ho (fun _ _ h => h)).val, cell_at (ho.blk HB2.out (fun h => h)) 0 rfl, cell_at (ho.blk HB2.out (fun h => h)) 1 rfl⟩)
    clear hB hw2 hy1
    go_loopw [7, 8, 9] (fun v7 v8 v9 wr => ∃ (i : Nat) (b : Bool) (A7 : Option Addr) (m7 c7 : Nat) (l : List (Int × Int)), v9 = .int .i64 (i : Int) ∧ v8 = .bool b ∧ v7 = .slice A7 m7 c7 ∧ i ≤ N ∧ Hid (Laid a (last + 1) R i b l) ∧ Hid (Rs wr (fun k => w2.heap.size ≤ k) v7 l) ∧ Hid (m7 = l.length) ∧ Hid (Only (fun _ => False) w2 wr)) (fun _ _ v9 _ => N - (RowKit.intOf v9).toNat)
    case atStart => exact ⟨0, false, none, 0, 0, [], rfl, rfl, rfl, Nat.zero_le _, Lib.hid (.inl ⟨rfl, by simp, by simp⟩), Lib.hid (Row.nil _ _ _ _), Lib.hid rfl, Lib.hid (Only.refl _ _)⟩
    case round =>
      obtain ⟨i, b, A7, m7, c7, l, rfl, rfl, rfl, hi, HLD, HKL, HM7, HOL⟩ := hrel
      have HLB : Hid (l.length ≤ 5000) := Lib.hid (by have h1 := HLD.out.len; have h2 := HN.out; omega)
      have hgo : i < N ∨ i = N := by omega
      rcases hgo with hlt | rfl
      · have hlt' : (i : Int) < (N : Int) := by omega
        have hil : i < R.length := by rw [← HN.out]; exact hlt
        have hge : R[i]? = some R[i] := List.getElem?_eq_getElem hil
        obtain ⟨p, hp⟩ : ∃ p, p = R[i] := ⟨_, rfl⟩
        rw [← hp] at hge
        have HGE := Lib.hid hge
        have hrow := HS2.out.row
        unfold Rs at hrow
        rw [← HN.out] at hrow
        obtain ⟨q, o, d, hs, _⟩ := Row.some_ hrow (by omega)
        injection hs with s1 s2 s3
        subst s1 s3
        have HEL : Hid (∀ W, Only (fun _ => False) w2 W → W.cell? ⟨q, o + i * 2, none⟩ = some (.int .i64 p.1) ∧ W.cell? ⟨q, o + i * 2 + 1, none⟩ = some (.int .i64 p.2)) := Lib.hid (fun W ho => ⟨Row.cell (Row.only hrow ho (fun _ _ h => h)) (i * 2) (by have := encP_at R i 0 p hge (by decide); exact this), Row.cell (Row.only hrow ho (fun _ _ h => h)) (i * 2 + 1) (by have := encP_at R i 1 p hge (by decide); exact this)⟩)
        clear hge hp hil hrow s2
        obtain ⟨g1, g2, g3⟩ := HF.out wr HOL.out
        obtain ⟨g4, g5⟩ := HEL.out wr HOL.out
        by_cases hb : b = false ∧ a < p.1
        · obtain ⟨rfl, hap⟩ := hb
          have hd : decide (a < p.1) = true := decide_eq_true hap
          have HLN := Lib.hid (HLD.out.first HGE.out hap)
          clear hap
          go_upto_region 10 with fail
          go_quiet (fail)
          obtain ⟨w3, hw3⟩ : ∃ w3, w3 = wr.drewN nq := ⟨_, rfl⟩
          have HO3 : Hid (Only (fun _ => False) w2 w3) := by rw [hw3]; exact Lib.hid (HOL.out.drewN _)
          have HK3 : Hid (Rs w3 (fun k => w2.heap.size ≤ k) (.slice A7 m7 c7) l) := by rw [hw3]; exact Lib.hid (Row.only HKL.out ((Only.refl (fun _ => False) wr).drewN _) (fun _ _ h => h))
          rw [← hw3]
          clear hw3 g1 g2 g3 g4 g5
          obtain ⟨g1, g2, g3⟩ := HF.out w3 HO3.out
          obtain ⟨A8, c8, w4, hr4, k4, o4⟩ := Rs.app HK3.out (fun k hk => by have := HO3.out.size; omega) (by have := HLB.out; omega) (a, last + 1) 42
          rw [← HM7.out] at hr4 k4
          have HO4 : Hid (Only (fun _ => False) w2 w4) := Lib.hid (HO3.out.then_ o4 (fun k hk => .inr (Row.own HK3.out hk).1))
          obtain ⟨A9, c9, w5, hr5, k5, o5⟩ := Rs.app k4 (fun k hk => by have := HO4.out.size; omega) (by rw [List.length_append, List.length_singleton]; have := HLB.out; omega) p 42
          have hl5 : (l ++ [(a, last + 1)]).length = m7 + 1 := by rw [List.length_append, List.length_singleton, HM7.out]
          rw [hl5] at hr5 k5
          have HO5 : Hid (Only (fun _ => False) w2 w5) := Lib.hid (HO4.out.then_ o5 (fun k hk => .inr (Row.own k4 hk).1))
          obtain ⟨f1, f2, f3⟩ := HF.out w4 HO4.out
          obtain ⟨f4, f5⟩ := HEL.out w4 HO4.out
          have HR4 := Lib.hid hr4
          have HR5 := Lib.hid hr5
          have HK5 := Lib.hid k5
          clear hr4 k4 o4 hr5 k5 o5 hl5
          go_wp2_with (first
            | ((with_reducible refine gate_builtin (b := .append) (xs := #[.tmp 54, .tmp 56]) rfl ?_); at_builtin; go_loud (refine Go.Lib.wpList_append_run_sl _ rfl (.tmp 54) (.tmp 56) 42 rfl _ _ rfl rfl HR4.out ?_))
            | ((with_reducible refine gate_builtin (b := .append) (xs := #[.tmp 58, .tmp 66]) rfl ?_); at_builtin; go_loud (refine Go.Lib.wpList_append_run_sl _ rfl (.tmp 58) (.tmp 66) 42 rfl _ _ rfl rfl HR5.out ?_)))
          go_roundw
          case rel => exact ⟨i + 1, true, A9, m7 + 1 + 1, c9, _, by go_num, rfl, rfl, by omega, HLN, HK5, Lib.hid (by rw [List.length_append, List.length_append, List.length_singleton, List.length_singleton, HM7.out]), HO5⟩
          case measure => simp [RowKit.intOf]; omega
        · have hL2 : Laid a (last + 1) R (i + 1) b (l ++ [p]) := by
            cases b with
            | true => exact HLD.out.high HS.out HGE.out
            | false => exact HLD.out.low HGE.out (by have : ¬ a < p.1 := fun h => hb ⟨rfl, h⟩; omega)
          have HLN := Lib.hid hL2
          have HBB := Lib.hid hb
          clear hb hL2
          cases b with
          | true =>
            have hd : True := trivial
            go_upto_region 10 with fail
            go_quiet (fail)
            obtain ⟨w3, hw3⟩ : ∃ w3, w3 = wr.drewN nq := ⟨_, rfl⟩
            have HO3 : Hid (Only (fun _ => False) w2 w3) := by rw [hw3]; exact Lib.hid (HOL.out.drewN _)
            have HK3 : Hid (Rs w3 (fun k => w2.heap.size ≤ k) (.slice A7 m7 c7) l) := by rw [hw3]; exact Lib.hid (Row.only HKL.out ((Only.refl (fun _ => False) wr).drewN _) (fun _ _ h => h))
            rw [← hw3]
            clear hw3 g1 g2 g3 g4 g5 hd
            obtain ⟨g1, g2, g3⟩ := HF.out w3 HO3.out
            obtain ⟨g4, g5⟩ := HEL.out w3 HO3.out
            obtain ⟨A8, c8, w4, hr4, k4, o4⟩ := Rs.app HK3.out (fun k hk => by have := HO3.out.size; omega) (by have := HLB.out; omega) p 42
            rw [← HM7.out] at hr4 k4
            have HO4 : Hid (Only (fun _ => False) w2 w4) := Lib.hid (HO3.out.then_ o4 (fun k hk => .inr (Row.own HK3.out hk).1))
            have HR4 := Lib.hid hr4
            have HK4 := Lib.hid k4
            clear hr4 k4 o4
            go_wp2_with (first
              | ((with_reducible refine gate_builtin (b := .append) (xs := #[.tmp 58, .tmp 66]) rfl ?_); at_builtin; go_loud (refine Go.Lib.wpList_append_run_sl _ rfl (.tmp 58) (.tmp 66) 42 rfl _ _ rfl rfl HR4.out ?_)))
            go_roundw
            case rel => exact ⟨i + 1, _, A8, m7 + 1, c8, _, by go_num, rfl, rfl, by omega, HLN, HK4, Lib.hid (by rw [List.length_append, List.length_singleton, HM7.out]), HO4⟩
            case measure => simp [RowKit.intOf]; omega
          | false =>
            have hd : decide (a < p.1) = false := decide_eq_false (fun h => HBB.out ⟨rfl, h⟩)
            go_upto_region 10 with fail
            go_quiet (fail)
            obtain ⟨w3, hw3⟩ : ∃ w3, w3 = wr.drewN nq := ⟨_, rfl⟩
            have HO3 : Hid (Only (fun _ => False) w2 w3) := by rw [hw3]; exact Lib.hid (HOL.out.drewN _)
            have HK3 : Hid (Rs w3 (fun k => w2.heap.size ≤ k) (.slice A7 m7 c7) l) := by rw [hw3]; exact Lib.hid (Row.only HKL.out ((Only.refl (fun _ => False) wr).drewN _) (fun _ _ h => h))
            rw [← hw3]
            clear hw3 g1 g2 g3 g4 g5 hd
            obtain ⟨g1, g2, g3⟩ := HF.out w3 HO3.out
            obtain ⟨g4, g5⟩ := HEL.out w3 HO3.out
            obtain ⟨A8, c8, w4, hr4, k4, o4⟩ := Rs.app HK3.out (fun k hk => by have := HO3.out.size; omega) (by have := HLB.out; omega) p 42
            rw [← HM7.out] at hr4 k4
            have HO4 : Hid (Only (fun _ => False) w2 w4) := Lib.hid (HO3.out.then_ o4 (fun k hk => .inr (Row.own HK3.out hk).1))
            have HR4 := Lib.hid hr4
            have HK4 := Lib.hid k4
            clear hr4 k4 o4
            go_wp2_with (first
              | ((with_reducible refine gate_builtin (b := .append) (xs := #[.tmp 58, .tmp 66]) rfl ?_); at_builtin; go_loud (refine Go.Lib.wpList_append_run_sl _ rfl (.tmp 58) (.tmp 66) 42 rfl _ _ rfl rfl HR4.out ?_)))
            go_roundw
            case rel => exact ⟨i + 1, _, A8, m7 + 1, c8, _, by go_num, rfl, rfl, by omega, HLN, HK4, Lib.hid (by rw [List.length_append, List.length_singleton, HM7.out]), HO4⟩
            case measure => simp [RowKit.intOf]; omega
      · have hge : ¬ (i : Int) < i := by omega
        have hz := HF.out wr HOL.out
        have hld := HLD.out
        unfold Laid at hld
        rw [show R.take i = R by rw [HN.out, List.take_length]] at hld
        have HLD2 := Lib.hid hld
        have HOw : Hid (Only (fun k => k = r) w wr) := Lib.hid ((HO1.out.trans (HO2.out.mono (fun _ h => h.elim))).trans (HOL.out.mono (fun _ h => h.elim)))
        have HSr := Lib.hid (HS2.out.only HOL.out (fun _ _ h => h))
        obtain ⟨g1, g2, g3⟩ := hz
        clear hld
        cases b with
        | true =>
          have hl : l = insR a (last + 1) R := by
            rcases HLD2.out with ⟨h, _⟩ | ⟨_, _, h⟩
            · cases h
            · exact h
          have HLI := Lib.hid hl
          have hfz := HSr.out.frozen 2
          have hlz := HSr.out.lst
          obtain ⟨w6, hw6⟩ : ∃ w6, w6 = wr.setCell ⟨r, 2, none⟩ (.slice A7 m7 c7) := ⟨_, rfl⟩
          obtain ⟨hS6, hO6⟩ := HSr.out.setVal (G' := fun k => k = r ∨ (Value.slice A7 m7 c7).ownBlock = some k) (Row.to HKL.out (fun k hk => .inr hk)) (.inl rfl) (fun k hk => by rcases hk with h1 | h1; rw [h1]; exact blk_lt HSr.out.blk; exact (Row.own HKL.out h1).2)
          rw [← hw6] at hS6 hO6
          have hl6 := hS6.lst
          have HS6 := Lib.hid hS6
          have HO6 := Lib.hid hO6
          clear hl hS6 hO6
          go_upto_region 17 with fail
          rw [← hw6]
          clear hw6 hfz hlz g1 g2 g3
          go_wp2
          go_ret2
          refine ⟨rfl, _, _, by rw [← HLI.out]; exact HS6.out, fun k hk => ?_, (HOw.out.trans HO6.out).mono (fun k hk => by rw [hk]; exact HR.out.gr)⟩
          rcases hk with h1 | h1
          · exact .inl (by rw [h1]; exact HR.out.gr)
          · exact .inr (by have h2 := (Row.own HKL.out h1).1; have h3 := HO1.out.size; have h4 := HO2.out.size; omega)
        | false =>
          have hl : insR a (last + 1) R = l ++ [(a, last + 1)] := by
            rcases HLD2.out with ⟨_, h2, h3⟩ | ⟨h, _⟩
            · rw [h3]
              unfold insR
              rw [List.filter_eq_self.2 (fun q hq => decide_eq_true (h2 q hq)), (List.filter_eq_nil_iff.2 (fun q hq => by have := h2 q hq; simp; omega) : R.filter (fun p => decide (a < p.1)) = [])]
            · cases h
          obtain ⟨A8, c8, w4, hr4, k4, o4⟩ := Rs.app HKL.out (fun k hk => by have := HOL.out.size; omega) (by have := HLB.out; omega) (a, last + 1) 42
          rw [← HM7.out] at hr4 k4
          rw [← hl] at k4
          have hS4 := HSr.out.only o4 (fun k hk e2 => by have h1 := (Row.own HKL.out e2).1; have h2 := HS2.out.flt k hk; omega)
          have hz4 := hS4.val
          have hf4 := hS4.frozen 2
          obtain ⟨w6, hw6⟩ : ∃ w6, w6 = w4.setCell ⟨r, 2, none⟩ (.slice A8 (m7 + 1) c8) := ⟨_, rfl⟩
          obtain ⟨hS6, hO6⟩ := hS4.setVal (G' := fun k => k = r ∨ (Value.slice A8 (m7 + 1) c8).ownBlock = some k) (Row.to k4 (fun k hk => .inr hk)) (.inl rfl) (fun k hk => by rcases hk with h1 | h1; rw [h1]; exact blk_lt hS4.blk; exact (Row.own k4 h1).2)
          rw [← hw6] at hS6 hO6
          have hl6 := hS6.lst
          have HS6 := Lib.hid hS6
          have HO4 : Hid (Only (fun k => k = r) w w4) := Lib.hid (HOw.out.then_ o4 (fun k hk => .inr (by have h2 := (Row.own HKL.out hk).1; have h3 := HO1.out.size; have h4 := HO2.out.size; omega)))
          have HO6 := Lib.hid hO6
          have HR4 := Lib.hid hr4
          have HK4 := Lib.hid k4
          clear hl hS6 hO6 hr4 k4 o4 hS4
          go_upto_region 17 with (first
            | ((with_reducible refine gate_builtin (b := .append) (xs := #[.tmp 70, .tmp 72]) rfl ?_); at_builtin; go_loud (refine Go.Lib.wpList_append_run_sl _ rfl (.tmp 70) (.tmp 72) 42 rfl _ _ rfl rfl HR4.out ?_)))
          rw [← hw6]
          clear hw6 hz4 hf4 g1 g2 g3
          go_wp2
          go_ret2
          refine ⟨rfl, _, _, HS6.out, fun k hk => ?_, (HO4.out.trans HO6.out).mono (fun k hk => by rw [hk]; exact HR.out.gr)⟩
          rcases hk with h1 | h1
          · exact .inl (by rw [h1]; exact HR.out.gr)
          · exact .inr (by have h2 := (Row.own HK4.out h1).1; have h3 := HO1.out.size; have h4 := HO2.out.size; omega)

end Go.Proofs.Ytkjokpmlnnjmoaa.Wh

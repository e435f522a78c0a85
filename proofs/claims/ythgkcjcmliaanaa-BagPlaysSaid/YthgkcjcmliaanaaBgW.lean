/- The contracts of bag's without and Take. -/
import Derived.Test.YthgkcjcmliaanaaBgT
import Derived.Laws.MakeOwn
set_option linter.unusedVariables false
set_option linter.unusedSimpArgs false
namespace Go.Proofs.Ythgkcjcmliaanaa.Bg
open Go.RowKit Go.Proofs.Ythgkcjcmliaanaa.Base Go.Proofs.Ythgkcjcmliaanaa.Rws Go.Proofs.YthgkcjcmliaanaaW.PrintWords Go.Proofs.YthgkcjcmliaanaaW.PrintMore
attribute [local go_sem] max2_mx min2_mn max_two min_two max_three min_three max_four min_four

theorem cells_ne {w : World} {g h : Nat} {cs ds : Array Value} {t u : TypeId} (a : w.heap[g]? = some (.cells cs t (0, 0))) (b : w.heap[h]? = some (.cells ds u (0, 0))) (ht : t ≠ u) : g ≠ h := by
  rintro rfl
  rw [a] at b
  simp at b
  exact ht b.2

theorem encF_len (L : List Fl) : (L.flatMap encF).length = L.length * 4 := by
  induction L with
  | nil => rfl
  | cons q L ih => rw [List.flatMap_cons, List.length_append, ih]; simp [encF]; omega

theorem encF_one (L : List Fl) : ∀ u ∈ L.flatMap encF, u.oneCell' = true := by
  intro u hu
  obtain ⟨x, _, hx⟩ := List.mem_flatMap.1 hu
  simp [encF] at hx
  rcases hx with rfl | rfl | rfl | rfl <;> rfl

theorem encF_take (L : List Fl) (k : Nat) (hk : k ≤ L.length) : (L.flatMap encF).take (k * 4) = (L.take k).flatMap encF := by
  conv => lhs; rw [← List.take_append_drop k L, List.flatMap_append]
  have h : ((L.take k).flatMap encF).length = k * 4 := by rw [encF_len, List.length_take]; congr 1; omega
  rw [← h, List.take_left]

theorem encF_drop (L : List Fl) (k : Nat) (hk : k ≤ L.length) : (L.flatMap encF).drop (k * 4) = (L.drop k).flatMap encF := by
  conv => lhs; rw [← List.take_append_drop k L, List.flatMap_append]
  have h : ((L.take k).flatMap encF).length = k * 4 := by rw [encF_len, List.length_take]; congr 1; omega
  rw [← h, List.drop_left]

/-- Flights are put behind flights. -/
theorem Fls.apps {W : World} {P Q : Nat → Prop} {v : Value} {L M : List Fl} {A : Option Addr} {m c : Nat} (h : Fls W P v L) (hm : m = M.length) (hM : Fls W Q (.slice A m c) M) (hP : ∀ k, W.heap.size ≤ k → P k) (hl : L.length + M.length ≤ 2000) (ty : TypeId) :
    ∃ v1 w1, (Builtin.append_ #[47, 47] ty #[v, .slice A m c]).run Try.prog W = .ok v1 w1 ∧ Fls w1 P v1 (L ++ M) ∧ Only (fun k => v.ownBlock = some k) W w1 := by
  subst hm
  by_cases h0 : M.length = 0
  · have : M = [] := List.length_eq_zero_iff.1 h0
    subst this
    refine ⟨v, W, Row.app0 h Try.underlying47 info29 A c, by simpa using h, Only.refl _ _⟩
  · obtain ⟨g, o, c', hv, _⟩ := Row.some_ hM (by omega)
    injection hv with e1 e2 e3
    subst e1 e3
    obtain ⟨v1, w1, hr, hR, ho⟩ := Row.app (ty := ty) h Try.underlying47 info29 (by rfl) hP ⟨g, o, none⟩ M.length c (M.flatMap encF) (encF_len M) (fun j u hu => by rw [Addr.add_lit]; exact Row.cell hM j hu) (encF_one M) (by omega) (by omega) (by omega)
    refine ⟨v1, w1, hr, ?_, ho⟩
    unfold Fls
    rw [List.length_append, List.flatMap_append]
    exact hR

set_option maxHeartbeats 1000000 in
theorem without_p {A : Option Addr} {n c : Nat} {P : Nat → Prop} {L : List Fl} (w : World) (hn : n = L.length) (hL : Fls w P (.slice A n c) L) (hl : n ≤ 1000) (k : Nat) (hk : k < n) :
    Calls Try.prog 17 #[.slice A n c, .int .i64 (k : Int)] w fun e w' => ∃ A' c', e = .returned (.slice A' (n - 1) c') ∧ Fls w' (fun q => w.heap.size ≤ q) (.slice A' (n - 1) c') (L.take k ++ L.drop (k + 1)) ∧ Only (fun _ => False) w w' := by
  obtain ⟨g, o, c', hv, hnc⟩ := Row.some_ hL (by omega)
  injection hv with e1 e2 e3
  subst e1 e3
  obtain ⟨i, hi, hzz⟩ := Option.map_eq_some_iff.1 info29
  simp only [Prod.mk.injEq] at hzz
  obtain ⟨hz0, hz1, hz2⟩ := hzz
  have hmk := run_make (P := Try.prog) (w := w) 47 29 i _ Try.underlying47 hi hz0 .i64 .i64 0 (n : Int) (by omega) (by omega) (by rw [hz2]; omega) (by omega)
  rw [hz1, Int.toNat_natCast, Int.toNat_zero] at hmk
  have hO1 : Only (fun _ => False) w (w.alloc (.cells (madeCells (Value.agg #[.int .i64 0, .int .i64 0, .string ByteArray.empty, .bool false]).cells (n * 4)) 29)) := (Only.refl _ w).alloc _
  have HL1 : Hid (Fls (w.alloc (.cells (madeCells (Value.agg #[.int .i64 0, .int .i64 0, .string ByteArray.empty, .bool false]).cells (n * 4)) 29)) P (.slice (some ⟨g, o, none⟩) n c) L) := Lib.hid (Row.only hL hO1 (fun _ _ h => h))
  have HR1 : Hid (Fls (w.alloc (.cells (madeCells (Value.agg #[.int .i64 0, .int .i64 0, .string ByteArray.empty, .bool false]).cells (n * 4)) 29)) (fun q => w.heap.size ≤ q) (.slice (some ⟨w.heap.size, 0, none⟩) 0 n) []) := Lib.hid (.inr ⟨w.heap.size, 0, n, _, rfl, Nat.le_refl _, heap_alloc_new w _, by simp, by simp [madeCells], by simp, by simp⟩)
  have HO1 := Lib.hid hO1
  have hs1 := hO1.size
  have hgw : g < w.heap.size := (Row.own hL (k := g) (by simp [Value.ownBlock])).2
  clear hL hO1 hi hz0 hz1 hz2
  generalize w.alloc (.cells (madeCells (Value.agg #[.int .i64 0, .int .i64 0, .string ByteArray.empty, .bool false]).cells (n * 4)) 29) = w1 at *
  have hkn : k ≤ n := by omega
  have hkc : k ≤ c := by omega
  have HN := Lib.hid hn
  have hpre : Fls w1 P (.slice (some ⟨g, o, none⟩) k c) (L.take k) := by
    have h1 := HL1.out
    unfold Fls at h1 ⊢
    rw [← hn] at h1
    have h2 := h1.pre k hkn
    rw [encF_take L k (by omega)] at h2
    rw [List.length_take, Nat.min_eq_left (by omega)]
    exact h2
  obtain ⟨v2, w2, hr2, hR2, hO2⟩ := Fls.apps HR1.out (by rw [List.length_take]; omega) hpre (fun q hq => by omega) (by simp; omega) 47
  rw [List.nil_append] at hR2
  have HR2 := Lib.hid hR2
  have HO2 : Hid (Only (fun _ => False) w w2) := Lib.hid (HO1.out.then_ hO2 (fun q hq => by simp [Value.ownBlock] at hq; omega))
  have HL2 : Hid (Fls w2 P (.slice (some ⟨g, o, none⟩) n c) L) := Lib.hid (Row.only HL1.out hO2 (fun q hq => by simp [Value.ownBlock] at hq ⊢; omega))
  have HRR := Lib.hid hr2
  clear hR2 hO2 hpre hr2
  have hw1 : wrap64 ((k : Int) + 1) = (k : Int) + 1 := by unfold wrap64; omega
  have hk1c : k + 1 ≤ c := by omega
  have hk1n : k + 1 ≤ n := by omega
  have HLEN : Hid ((L.take k ++ L.drop (k + 1)).length = n - 1) := Lib.hid (by rw [List.length_append, List.length_take, List.length_drop]; omega)
  clear hn e2
  by_cases hc : c = k + 1
  · subst hc
    have hsuf : Fls w2 P (.slice (some ⟨g, o, none⟩) (n - (k + 1)) 0) (L.drop (k + 1)) := by
      have h1 := HL2.out
      have hnk : n = k + 1 := by have := HN.out; omega
      have h0 : L.drop (k + 1) = [] := List.drop_eq_nil_of_le (by have := HN.out; omega)
      rw [h0, hnk, Nat.sub_self]
      rcases h1 with ⟨h1, _⟩ | ⟨g', o', c', cells, hv, hg, hh, _, h2, _⟩
      · cases h1
      · injection hv with e1 e2 e3
        injection e1 with e1
        injection e1 with e4 e5
        subst e4 e5
        exact .inr ⟨g, o, 0, cells, rfl, hg, hh, by simp, by omega, by simp, by simp⟩
    obtain ⟨v4, w4, hr4, hR4, hO4⟩ := Fls.apps HR2.out (by rw [List.length_drop, ← HN.out]) hsuf (fun q hq => by have := HO2.out.size; omega) (by rw [List.length_take, List.length_drop]; have := HN.out; omega) 47
    have HR4 := Lib.hid hR4
    have HO4 : Hid (Only (fun _ => False) w w4) := Lib.hid (HO2.out.then_ hO4 (fun q hq => .inr (Row.own HR2.out hq).1))
    have HRS := Lib.hid hr4
    clear hR4 hO4 hr4 hsuf
    go_enter Try.func17, Try.ntmps17
    go_wp2_with (first | ((with_reducible refine gate_builtin (b := .append) (xs := #[.tmp 9, .tmp 12]) rfl ?_); at_builtin; (refine Go.Lib.wpList_append_run_sl _ rfl (.tmp 9) (.tmp 12) 47 rfl _ _ rfl rfl HRR.out ?_)) | ((with_reducible refine gate_builtin (b := .append) (xs := #[.tmp 14, .tmp 18]) rfl ?_); at_builtin; go_loud (refine Go.Lib.wpList_append_run_sl _ rfl (.tmp 14) (.tmp 18) 47 rfl _ _ rfl rfl HRS.out ?_)))
    go_ret
    obtain ⟨A4, c4, e4, _⟩ := HR4.out.form
    rw [HLEN.out] at e4
    subst e4
    exact ⟨A4, c4, rfl, HR4.out, HO4.out⟩
  · have hsuf : Fls w2 P (.slice (some ⟨g, o + (k + 1) * 4, none⟩) (n - (k + 1)) (c - (k + 1))) (L.drop (k + 1)) := by
      have h1 := HL2.out
      unfold Fls at h1 ⊢
      rw [← HN.out] at h1
      have h2 := h1.cut (k + 1) hk1n
      rw [encF_drop L (k + 1) (by have := HN.out; omega)] at h2
      rw [List.length_drop, ← HN.out]
      exact h2
    obtain ⟨v4, w4, hr4, hR4, hO4⟩ := Fls.apps HR2.out (by rw [List.length_drop, ← HN.out]) hsuf (fun q hq => by have := HO2.out.size; omega) (by rw [List.length_take, List.length_drop]; have := HN.out; omega) 47
    have HR4 := Lib.hid hR4
    have HO4 : Hid (Only (fun _ => False) w w4) := Lib.hid (HO2.out.then_ hO4 (fun q hq => .inr (Row.own HR2.out hq).1))
    have HRS := Lib.hid hr4
    clear hR4 hO4 hr4 hsuf
    go_enter Try.func17, Try.ntmps17
    go_wp2_with (first | ((with_reducible refine gate_builtin (b := .append) (xs := #[.tmp 9, .tmp 12]) rfl ?_); at_builtin; (refine Go.Lib.wpList_append_run_sl _ rfl (.tmp 9) (.tmp 12) 47 rfl _ _ rfl rfl HRR.out ?_)) | ((with_reducible refine gate_builtin (b := .append) (xs := #[.tmp 14, .tmp 18]) rfl ?_); at_builtin; go_loud (refine Go.Lib.wpList_append_run_sl _ rfl (.tmp 14) (.tmp 18) 47 rfl _ _ rfl rfl HRS.out ?_)))
    go_ret
    obtain ⟨A4, c4, e4, _⟩ := HR4.out.form
    rw [HLEN.out] at e4
    subst e4
    exact ⟨A4, c4, rfl, HR4.out, HO4.out⟩

set_option maxHeartbeats 2000000 in
/-- A flight is taken. -/
theorem take_ok {g : Nat} {v : Value} {lost : Int} {P : Nat → Prop} {L : List Fl} (w : World) (hb : BG w g v lost) (hL : Fls w P v L) (hl : L.length ≤ 1000) (k : Nat) {x : Fl} (h : L[k]? = some x) :
    Calls Try.prog 10 #[.pointer (some ⟨g, 0, none⟩), .int .i64 (k : Int)] w fun e w' => e = .returned (.tuple #[x.v, .int .i64 0]) ∧ ∃ v', BG w' g v' lost ∧ Fls w' (fun q => w.heap.size ≤ q) v' (L.take k ++ L.drop (k + 1)) ∧ Only (fun k => k = g) w w' := by
  obtain ⟨A, c, rfl, hnc⟩ := hL.form
  obtain ⟨n, hn⟩ : ∃ n, n = L.length := ⟨_, rfl⟩
  have hkl := (List.getElem?_eq_some_iff.1 h).1
  have hkn : k < n := by omega
  have hgw : g < w.heap.size := blk_lt hb
  have hlk : lookF L (k : Int) = (x, 0) := by unfold lookF; rw [if_neg (by omega), Int.toNat_natCast, h]
  have HLK : Hid (∀ w1, Only (fun _ => False) w w1 → Calls Try.prog 13 #[.pointer (some ⟨g, 0, none⟩), .int .i64 (k : Int)] w1 fun e w' => e = .returned (.tuple #[.agg #[.int .i64 x.f, .int .i64 x.t, .string x.s, .bool x.h], .int .i64 0]) ∧ Only (fun _ => False) w1 w') := Lib.hid (fun w1 ho => look_is w1 (ho.blk hb (fun h => h)) (Row.only hL ho (fun _ _ h => h)) k hlk)
  have HWO : Hid (∀ w1, Only (fun _ => False) w w1 → Calls Try.prog 17 #[.slice A n c, .int .i64 (k : Int)] w1 fun e w' => ∃ A' c', e = .returned (.slice A' (n - 1) c') ∧ Fls w' (fun q => w1.heap.size ≤ q) (.slice A' (n - 1) c') (L.take k ++ L.drop (k + 1)) ∧ Only (fun _ => False) w1 w') := Lib.hid (fun w1 ho => without_p w1 hn (by rw [hn]; exact Row.only hL ho (fun _ _ h => h)) (by omega) k hkn)
  have HLEN : Hid ((L.take k ++ L.drop (k + 1)).length = n - 1) := Lib.hid (by rw [List.length_append, List.length_take, List.length_drop]; omega)
  rw [← hn] at hb
  have HB := Lib.hid hb
  have HO1 : Hid (Only (fun _ => False) w (w.alloc (.cells #[.int .i64 0, .int .i64 0, .string ⟨#[]⟩, .bool false] 29))) := Lib.hid ((Only.refl _ w).alloc _)
  have HK1 := Lib.hid (heap_alloc_new w (.cells #[.int .i64 0, .int .i64 0, .string ⟨#[]⟩, .bool false] 29))
  have hs1 := HO1.out.size
  clear hlk hb hL hl hn h hkl hnc
  go_enter Try.func10, Try.ntmps10
  go_wp2_with fail
  generalize w.alloc (.cells #[.int .i64 0, .int .i64 0, .string ⟨#[]⟩, .bool false] 29) = w1 at *
  refine (HLK.out _ HO1.out).mono ?_
  rintro e w2 ⟨rfl, ho⟩
  have HO2 : Hid (Only (fun _ => False) w (w2.alloc (.cells #[.int .i64 x.f, .int .i64 x.t, .string x.s, .bool x.h] 29))) := Lib.hid ((HO1.out.trans ho).alloc _)
  have HK2 := Lib.hid (((ho.alloc (.cells #[.int .i64 x.f, .int .i64 x.t, .string x.s, .bool x.h] 29))).blk HK1.out (fun h => h))
  have HC2 := Lib.hid (heap_alloc_new w2 (.cells #[.int .i64 x.f, .int .i64 x.t, .string x.s, .bool x.h] 29))
  have HB2 := Lib.hid (HO2.out.blk HB.out (fun h => h))
  have hc0 : (w2.alloc (.cells #[.int .i64 x.f, .int .i64 x.t, .string x.s, .bool x.h] 29)).cell? ⟨g, 0, none⟩ = some (.slice A n c) := cell_at HB2.out 0 rfl
  have hq2 : w.heap.size ≠ w2.heap.size := by have h1 := (ho.size); have := blk_lt HK1.out; omega
  clear ho
  go_wp2_with fail
  generalize w2.alloc (.cells #[.int .i64 x.f, .int .i64 x.t, .string x.s, .bool x.h] 29) = w3 at *
  generalize w2.heap.size = q at *
  refine (HWO.out _ HO2.out).mono ?_
  rintro e w4 ⟨A4, c4, rfl, h4, o4⟩
  have HB4 := Lib.hid (o4.blk HB2.out (fun h => h))
  have HK4 := Lib.hid (o4.blk HK2.out (fun h => h))
  have HC4 := Lib.hid (o4.blk HC2.out (fun h => h))
  have HO4 : Hid (Only (fun k => k = g) w w4) := Lib.hid ((HO2.out.trans o4).mono (fun _ h => h.elim))
  have H4 : Hid (Fls w4 (fun q => w.heap.size < q) (.slice A4 (n - 1) c4) (L.take k ++ L.drop (k + 1))) := Lib.hid (h4.to (fun q hq => by have := (Row.own h4 hq).1; have := blk_lt HK2.out; omega))
  clear h4 o4
  have hd0 : w4.cell? ⟨g, 0, none⟩ = some (.slice A n c) := cell_at HB4.out 0 rfl
  have hf0 : w4.frozen? ⟨g, 0, none⟩ = false := blk_frozen HB4.out 0
  have HB5 : Hid (BG (w4.setCell ⟨g, 0, none⟩ (.slice A4 (n - 1) c4)) g (.slice A4 (n - 1) c4) lost) := Lib.hid (blk_set HB4.out 0 _)
  have hOS : Only (fun k => k = g) w4 (w4.setCell ⟨g, 0, none⟩ (.slice A4 (n - 1) c4)) := (Only.refl (fun k => k = g) w4).setCell (p := ⟨g, 0, none⟩) (.inl rfl) _
  have HO5 := Lib.hid (HO4.out.trans hOS)
  have H5 := Lib.hid (Row.only H4.out hOS (fun i hi e => Fls.ne H4.out HB4.out (by decide) (by rw [hi, e])))
  have HK5 := Lib.hid (hOS.blk HK4.out (by omega))
  have HC5 := Lib.hid (hOS.blk HC4.out (fun e => cells_ne HC4.out HB4.out (by decide) e))
  have hy0 : (w4.setCell ⟨g, 0, none⟩ (.slice A4 (n - 1) c4)).cell? ⟨q, 0, none⟩ = some (.int .i64 x.f) := cell_at HC5.out 0 rfl
  have hy1 : (w4.setCell ⟨g, 0, none⟩ (.slice A4 (n - 1) c4)).cell? ⟨q, 1, none⟩ = some (.int .i64 x.t) := cell_at HC5.out 1 rfl
  have hy2 : (w4.setCell ⟨g, 0, none⟩ (.slice A4 (n - 1) c4)).cell? ⟨q, 2, none⟩ = some (.string x.s) := cell_at HC5.out 2 rfl
  have hy3 : (w4.setCell ⟨g, 0, none⟩ (.slice A4 (n - 1) c4)).cell? ⟨q, 3, none⟩ = some (.bool x.h) := cell_at HC5.out 3 rfl
  clear hOS
  go_wp2_with ((with_reducible refine gate_store (ty := 29) (x := .tmp 4) (y := .tmp 27) rfl ?_); go_loud (refine wpList_store_row rfl 29 (.tmp 4) (.tmp 27) rfl w.heap.size #[.int .i64 x.f, .int .i64 x.t, .string x.s, .bool x.h] rfl rfl 29 _ HK5.out (by kernel_rfl) rfl (by simp [Value.oneCell']) ?_))
  (try simp only [Exit.inBlock, Exit.then])
  refine bodyPost_ret (results_cell2 rfl _ _ w.heap.size 29 _ (0, 0) _ rfl (setRow_heap _ _ _ _ _ _ HK5.out) Try.underlying29 rfl (by kernel_rfl)) rfl ⟨rfl, .slice A4 (n - 1) c4, ?_, ?_, only_setRow HO5.out (.inr (Nat.le_refl _)) _⟩
  · exact (setRow_other _ _ _ _ (by omega)).trans HB5.out
  · have h6 : Fls ((w4.setCell ⟨g, 0, none⟩ (.slice A4 (n - 1) c4)).setRow w.heap.size #[.int .i64 x.f, .int .i64 x.t, .string x.s, .bool x.h]) (fun q => w.heap.size < q) (.slice A4 (n - 1) c4) (L.take k ++ L.drop (k + 1)) :=
      Row.keep H5.out (fun i hi _ => setRow_other _ _ _ _ (by have := (Row.own H5.out hi).1; omega))
    exact h6.to (fun i hi => by have := (Row.own h6 hi).1; omega)

end Go.Proofs.Ythgkcjcmliaanaa.Bg

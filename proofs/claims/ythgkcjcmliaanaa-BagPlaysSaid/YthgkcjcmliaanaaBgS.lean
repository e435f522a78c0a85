/- The contract of the reference's Take. -/
import Derived.Test.YthgkcjcmliaanaaBgR
set_option linter.unusedVariables false
set_option linter.unusedSimpArgs false
namespace Go.Proofs.Ythgkcjcmliaanaa.Bg
open Go.RowKit Go.Proofs.Ythgkcjcmliaanaa.Base Go.Proofs.Ythgkcjcmliaanaa.Rws Go.Proofs.YthgkcjcmliaanaaW.PrintWords Go.Proofs.YthgkcjcmliaanaaW.PrintMore
attribute [local go_sem] max2_mx min2_mn max_two min_two max_three min_three max_four min_four

/-- The first n flights, but for that at k. -/
def remN (L : List Fl) (k : Int) : Nat → List Fl
  | 0 => []
  | n + 1 => remN L k n ++ if (n : Int) = k then [] else (L[n]?).toList

theorem remN_len (L : List Fl) (k : Int) (n : Nat) : (remN L k n).length ≤ n := by
  induction n with
  | zero => simp [remN]
  | succ n ih =>
    unfold remN
    rw [List.length_append]
    split
    · simp; omega
    · have : (L[n]?).toList.length ≤ 1 := by cases L[n]? <;> simp
      omega

theorem remN_before (L : List Fl) (k : Int) (n : Nat) (hn : n ≤ L.length) (h : k < 0 ∨ (n : Int) ≤ k) : remN L k n = L.take n := by
  induction n with
  | zero => simp [remN]
  | succ n ih =>
    unfold remN
    rw [ih (by omega) (by omega), if_neg (by omega), List.getElem?_eq_getElem (by omega)]
    rw [List.take_add_one, List.getElem?_eq_getElem (by omega)]

theorem remN_behind (L : List Fl) (k n : Nat) (hn : n ≤ L.length) (h : k < n) : remN L (k : Int) n = L.take k ++ (L.take n).drop (k + 1) := by
  induction n with
  | zero => omega
  | succ n ih =>
    unfold remN
    by_cases hk : k = n
    · subst hk
      rw [if_pos rfl, remN_before L k k (by omega) (.inr (Int.le_refl _)), List.append_nil, List.drop_eq_nil_of_le (by rw [List.length_take]; omega), List.append_nil]
    · rw [ih (by omega) (by omega), if_neg (by omega), List.append_assoc]
      congr 1
      rw [List.take_add_one, List.drop_append_of_le_length (by rw [List.length_take]; omega)]

theorem remN_all (L : List Fl) (k : Int) (lost : Int) : (⟨remN L k L.length, lost⟩ : Bs) = takeM ⟨L, lost⟩ k := by
  unfold takeM
  simp only
  rcases lookF_cases L k with ⟨x, hk, hx, he⟩ | he
  · rw [he, if_pos rfl]
    obtain ⟨k, rfl⟩ := Int.eq_ofNat_of_zero_le hk
    rw [Int.toNat_natCast] at hx ⊢
    have := (List.getElem?_eq_some_iff.1 hx).1
    rw [remN_behind L k _ (Nat.le_refl _) this, List.take_length]
  · rw [he, if_neg (by decide)]
    have : k < 0 ∨ (L.length : Int) ≤ k := by
      by_cases h0 : k < 0
      · exact .inl h0
      · right
        unfold lookF at he
        rw [if_neg h0] at he
        cases hx : L[k.toNat]? with
        | none => have := List.getElem?_eq_none_iff.1 hx; omega
        | some x => rw [hx] at he; injection he with _ e; cases e
    rw [remN_before L k _ (Nat.le_refl _) this, List.take_length]

set_option maxHeartbeats 2000000 in
theorem rtake_p {g : Nat} {v : Value} {lost : Int} {P : Nat → Prop} {L : List Fl} (w : World) (hb : RG w g v lost) (hL : Rfs w P v L) (hl : L.length ≤ 1000) (k : Int) {x : Fl} {e0 : Int} (h : lookF L k = (x, e0)) :
    Calls Try.prog 19 #[.pointer (some ⟨g, 0, none⟩), .int .i64 k] w fun e w' => e = .returned (.tuple #[x.v, .int .i64 e0]) ∧ ∃ v', RG w' g v' lost ∧ Rfs w' (fun q => w.heap.size ≤ q) v' (remN L k L.length) ∧ Only (fun k => k = g) w w' := by
  obtain ⟨A, c, rfl, hnc⟩ := hL.form
  obtain ⟨n, hn⟩ : ∃ n, n = L.length := ⟨_, rfl⟩
  have hgw : g < w.heap.size := blk_lt hb
  have HLK : Hid (∀ w1, Only (fun _ => False) w w1 → Calls Try.prog 22 #[.pointer (some ⟨g, 0, none⟩), .int .i64 k] w1 fun e w' => e = .returned (.tuple #[.agg #[.int .i64 x.f, .int .i64 x.t, .string x.s, .bool x.h], .int .i64 e0]) ∧ Only (fun _ => False) w1 w') := Lib.hid (fun w1 ho => rlook_p w1 (ho.blk hb (fun h => h)) (Row.only hL ho (fun _ _ h => h)) k h)
  have HRE : Hid (remN L k L.length = remN L k n) := Lib.hid (by rw [hn])
  rw [HRE.out]
  have hL' : Row 4 30 w P (.slice A n c) n (L.flatMap encF) := by unfold Rfs at hL; rw [← hn] at hL; exact hL
  rw [← hn] at hb
  have HB := Lib.hid hb
  have HL := Lib.hid hL'
  have HN := Lib.hid hn
  have hn1 : n ≤ 1000 := by omega
  have HO1 : Hid (Only (fun _ => False) w (w.alloc (.cells #[.int .i64 0, .int .i64 0, .string ⟨#[]⟩, .bool false] 30))) := Lib.hid ((Only.refl _ w).alloc _)
  have HK1 := Lib.hid (heap_alloc_new w (.cells #[.int .i64 0, .int .i64 0, .string ⟨#[]⟩, .bool false] 30))
  have hs1 := HO1.out.size
  clear hb hL hl hn h hnc hL' HRE
  go_enter Try.func19, Try.ntmps19
  go_wp2_with fail
  generalize w.alloc (.cells #[.int .i64 0, .int .i64 0, .string ⟨#[]⟩, .bool false] 30) = w1 at *
  refine (HLK.out _ HO1.out).mono ?_
  rintro e w2 ⟨rfl, ho⟩
  have HO2 : Hid (Only (fun _ => False) w (w2.alloc (.cells #[.int .i64 x.f, .int .i64 x.t, .string x.s, .bool x.h] 30))) := Lib.hid ((HO1.out.trans ho).alloc _)
  have HK2 := Lib.hid (((ho.alloc (.cells #[.int .i64 x.f, .int .i64 x.t, .string x.s, .bool x.h] 30))).blk HK1.out (fun h => h))
  have HC2 := Lib.hid (heap_alloc_new w2 (.cells #[.int .i64 x.f, .int .i64 x.t, .string x.s, .bool x.h] 30))
  have HB2 := Lib.hid (HO2.out.blk HB.out (fun h => h))
  have hq2 : w.heap.size < w2.heap.size := by have h1 := (ho.size); have := blk_lt HK1.out; omega
  have hq3 : w2.heap.size < (w2.alloc (.cells #[.int .i64 x.f, .int .i64 x.t, .string x.s, .bool x.h] 30)).heap.size := blk_lt HC2.out
  clear ho
  go_wp2_with fail
  generalize w2.alloc (.cells #[.int .i64 x.f, .int .i64 x.t, .string x.s, .bool x.h] 30) = w3 at *
  generalize w2.heap.size = q at *
  go_loopw [8, 9] (fun vl vi wr => ∃ i : Nat, vi = .int .i64 (i : Int) ∧ i ≤ n ∧ Hid (Rfs wr (fun z => w3.heap.size ≤ z) vl (remN L k i)) ∧ Hid (Only (fun _ => False) w3 wr)) (fun _ vi _ => n - (intOf vi).toNat)
  case atStart => exact ⟨0, rfl, by omega, Lib.hid (Row.nil 4 30 _ _), Lib.hid (Only.refl _ _)⟩
  case round =>
    obtain ⟨i, rfl, hi, HR, HO⟩ := hrel
    have HOw : Hid (Only (fun _ => False) w wr) := Lib.hid (HO2.out.trans HO.out)
    have HBr := Lib.hid (HOw.out.blk HB.out (fun h => h))
    have hc0 : wr.cell? ⟨g, 0, none⟩ = some (.slice A n c) := cell_at HBr.out 0 rfl
    have hgo : i < n ∨ i = n := by omega
    rcases hgo with hlt | rfl
    · have hlt' : (i : Int) < n := by omega
      by_cases hik : (i : Int) = k
      · have hre : Hid (remN L k (i + 1) = remN L k i) := Lib.hid (by show remN L k i ++ _ = _; rw [if_pos hik, List.append_nil])
        go_wp2
        go_roundw
        case rel => exact ⟨i + 1, by go_num, by omega, by rw [hre.out]; exact HR, HO⟩
        case measure => simp [intOf]; omega
      · obtain ⟨y, hy⟩ : ∃ y, L[i]? = some y := ⟨L[i]'(by have := HN.out; omega), List.getElem?_eq_getElem _⟩
        have hre : Hid (remN L k (i + 1) = remN L k i ++ [y]) := Lib.hid (by show remN L k i ++ _ = _; rw [if_neg hik, hy]; rfl)
        have hLr := Row.only HL.out HOw.out (fun _ _ h => h)
        obtain ⟨r, o, c', hv, _⟩ := hLr.some_ (by omega)
        injection hv with e1 e2 e3
        subst e1 e3
        clear e2
        have hd0 : wr.cell? ⟨r, o + i * 4, none⟩ = some (.int .i64 y.f) := hLr.cell (i * 4) (encF_at L i 0 _ hy (by omega))
        have hd1 : wr.cell? ⟨r, o + i * 4 + 1, none⟩ = some (.int .i64 y.t) := hLr.cell (i * 4 + 1) (encF_at L i 1 _ hy (by omega))
        have hd2 : wr.cell? ⟨r, o + i * 4 + 2, none⟩ = some (.string y.s) := hLr.cell (i * 4 + 2) (encF_at L i 2 _ hy (by omega))
        have hd3 : wr.cell? ⟨r, o + i * 4 + 3, none⟩ = some (.bool y.h) := hLr.cell (i * 4 + 3) (encF_at L i 3 _ hy (by omega))
        obtain ⟨v2, w4, hr2, hI2, hO2⟩ := Rfs.app HR.out (fun z hz => by have := HO.out.size; omega) (by have := remN_len L k i; omega) y 40
        have HRR := Lib.hid hr2
        have HI2 := Lib.hid hI2
        have HO4 : Hid (Only (fun _ => False) w3 w4) := Lib.hid (HO.out.then_ hO2 (fun z hz => .inr (Row.own HR.out hz).1))
        clear hr2 hI2 hO2 hy hLr
        go_wp2_with ((with_reducible refine gate_builtin (b := .append) (xs := #[.tmp 28, .tmp 36]) rfl ?_); at_builtin; go_loud (refine Go.Lib.wpList_append_run_sl _ rfl (.tmp 28) (.tmp 36) 40 rfl _ _ rfl rfl HRR.out ?_))
        go_roundw
        case rel => exact ⟨i + 1, by go_num, by omega, by rw [hre.out]; exact HI2, HO4⟩
        case measure => simp [intOf]; omega
    · have hge : ¬ (i : Int) < i := by omega
      obtain ⟨A4, c4, e4, _⟩ := HR.out.form
      subst e4
      have HQ : Hid (q < w3.heap.size) := Lib.hid hq3
      have HCr := Lib.hid (HO.out.blk HC2.out (fun h => h))
      have HKr := Lib.hid (HO.out.blk HK2.out (fun h => h))
      have hf0 : wr.frozen? ⟨g, 0, none⟩ = false := blk_frozen HBr.out 0
      have hOS : ∀ u, Only (fun k => k = g) wr (wr.setCell ⟨g, 0, none⟩ u) := fun u => (Only.refl (fun k => k = g) wr).setCell (p := ⟨g, 0, none⟩) (.inl rfl) _
      generalize hm4 : (remN L k i).length = m4 at *
      have HM4 := Lib.hid hm4
      have HB5 : Hid (RG (wr.setCell ⟨g, 0, none⟩ (.slice A4 m4 c4)) g (.slice A4 m4 c4) lost) := Lib.hid (blk_set HBr.out 0 _)
      have HO5 : Hid (Only (fun k => k = g) w (wr.setCell ⟨g, 0, none⟩ (.slice A4 m4 c4))) := Lib.hid ((HOw.out.mono (fun _ h => h.elim)).trans (hOS _))
      have HR5 : Hid (Row 4 30 (wr.setCell ⟨g, 0, none⟩ (.slice A4 m4 c4)) (fun z => w3.heap.size ≤ z) (.slice A4 m4 c4) m4 ((remN L k i).flatMap encF)) := Lib.hid (by
        have h1 := HR.out
        unfold Rfs at h1
        rw [hm4] at h1
        exact Row.only h1 (hOS _) (fun z hz e => Row.ne h1 HBr.out (by decide) (by rw [hz, e])))
      have HK5 := Lib.hid ((hOS (.slice A4 m4 c4)).blk HKr.out (by omega))
      have HC5 := Lib.hid ((hOS (.slice A4 m4 c4)).blk HCr.out (fun e => cells_ne HCr.out HBr.out (by decide) e))
      have hy0 : (wr.setCell ⟨g, 0, none⟩ (.slice A4 m4 c4)).cell? ⟨q, 0, none⟩ = some (.int .i64 x.f) := cell_at HC5.out 0 rfl
      have hy1 : (wr.setCell ⟨g, 0, none⟩ (.slice A4 m4 c4)).cell? ⟨q, 1, none⟩ = some (.int .i64 x.t) := cell_at HC5.out 1 rfl
      have hy2 : (wr.setCell ⟨g, 0, none⟩ (.slice A4 m4 c4)).cell? ⟨q, 2, none⟩ = some (.string x.s) := cell_at HC5.out 2 rfl
      have hy3 : (wr.setCell ⟨g, 0, none⟩ (.slice A4 m4 c4)).cell? ⟨q, 3, none⟩ = some (.bool x.h) := cell_at HC5.out 3 rfl
      clear hOS hm4 HR
      go_wp2_with ((with_reducible refine gate_store (ty := 30) (x := .tmp 4) (y := .tmp 42) rfl ?_); go_loud (refine wpList_store_row rfl 30 (.tmp 4) (.tmp 42) rfl w.heap.size #[.int .i64 x.f, .int .i64 x.t, .string x.s, .bool x.h] rfl rfl 30 _ HK5.out (by kernel_rfl) rfl (by simp [Value.oneCell']) ?_))
      (try simp only [Exit.inBlock, Exit.then])
      refine bodyPost_ret (results_cell2 rfl _ _ w.heap.size 30 _ (0, 0) _ rfl (setRow_heap _ _ _ _ _ _ HK5.out) Try.underlying30 rfl (by kernel_rfl)) rfl ⟨rfl, .slice A4 m4 c4, ?_, ?_, only_setRow HO5.out (.inr (Nat.le_refl _)) _⟩
      · exact (setRow_other _ _ _ _ (by omega)).trans HB5.out
      · have h6 := Row.keep (w' := (wr.setCell ⟨g, 0, none⟩ (.slice A4 m4 c4)).setRow w.heap.size #[.int .i64 x.f, .int .i64 x.t, .string x.s, .bool x.h]) HR5.out (fun z hz _ => setRow_other _ _ _ _ (by have := (Row.own HR5.out hz).1; omega))
        unfold Rfs
        rw [HM4.out]
        exact h6.to (fun z hz => by have := (Row.own h6 hz).1; omega)

end Go.Proofs.Ythgkcjcmliaanaa.Bg

/- SeenOnce: the walk of the law. -/
import Derived.Test.YtlgibnjhegoefaaSnA
import Derived.Test.YtlgibnjhegoefaaWEqStruct
import Derived.Test.YtlgibnjhegoefaaArgs
set_option linter.unusedVariables false
set_option linter.unusedSimpArgs false
namespace Go.Proofs.Ytlgibnjhegoefaa.Sn
open Go.RowKit Go.Maps Go.Proofs.Ytlgibnjhegoefaa.Base Go.Proofs.YtlgibnjhegoefaaW.PrintWords Go.Proofs.YtlgibnjhegoefaaW.PrintMore
attribute [local go_sem] max2_mx min2_mn max_two min_two max_three min_three max_four min_four

/-- Two keys, compared. -/
theorem eq25 (j k : K4) (w : World) : (Op.equalIn 10000 25 (.agg #[.int .i64 j.a, .int .i64 j.b, .int .i64 j.c, .int .i64 j.d]) (.agg #[.int .i64 k.a, .int .i64 k.b, .int .i64 k.c, .int .i64 k.d])).run Try.prog w = .ok (decide (j = k)) w := by
  have h23 : (Op.equalIn (9998 + 1) 23 (.agg #[.int .i64 j.a, .int .i64 j.b, .int .i64 j.c]) (.agg #[.int .i64 k.a, .int .i64 k.b, .int .i64 k.c])).run Try.prog w = .ok ((j.a == k.a) && ((j.b == k.b) && (j.c == k.c))) w := by
    refine eqA_of Try.underlying23 (by kernel_rfl) ?_
    refine eqf_cons (by rfl) (by kernel_rfl) (by kernel_rfl) (run_equalIn_int _ _ _ .i64 _ _ _ Try.underlying3) ?_
    refine eqf_cons (by rfl) (by kernel_rfl) (by kernel_rfl) (run_equalIn_int _ _ _ .i64 _ _ _ Try.underlying3) ?_
    exact eqf_last (by rfl) (by kernel_rfl) (by kernel_rfl) (run_equalIn_int _ _ _ .i64 _ _ _ Try.underlying3)
  have h25 : (Op.equalIn (9999 + 1) 25 (.agg #[.int .i64 j.a, .int .i64 j.b, .int .i64 j.c, .int .i64 j.d]) (.agg #[.int .i64 k.a, .int .i64 k.b, .int .i64 k.c, .int .i64 k.d])).run Try.prog w = .ok (((j.a == k.a) && ((j.b == k.b) && (j.c == k.c))) && (j.d == k.d)) w := by
    refine eqA_of Try.underlying25 (by kernel_rfl) ?_
    refine eqf_cons (by rfl) (by kernel_rfl) (by kernel_rfl) h23 ?_
    exact eqf_last (by rfl) (by kernel_rfl) (by kernel_rfl) (run_equalIn_int _ _ _ .i64 _ _ _ Try.underlying3)
  refine h25.trans ?_
  congr 1
  by_cases e : j = k
  · subst e
    simp
  · simp only [e, decide_false]
    cases j; cases k
    simp_all [Bool.and_eq_false_iff]

theorem neq25 (j k : K4) (w : World) : (binOp .neq 25 (.agg #[.int .i64 j.a, .int .i64 j.b, .int .i64 j.c, .int .i64 j.d]) (.agg #[.int .i64 k.a, .int .i64 k.b, .int .i64 k.c, .int .i64 k.d])).run Try.prog w = .ok (.bool (!decide (j = k))) w := by
  rw [run_neq_struct, eq25]
  rfl

/-- Deeds: at each index a key, until when, and now. -/
def Deeds (w : World) (A : Option Addr) (len : Nat) : Prop :=
  ∀ i : Int, 0 ≤ i → i < len → ∃ (a : Addr) (j : K4) (u t : Int), A = some a ∧ j.wf ∧ w.cell? (a.add (i.toNat * 6)) = some (.int .i64 j.a) ∧ w.cell? ⟨(a.add (i.toNat * 6)).block, (a.add (i.toNat * 6)).off + 1, none⟩ = some (.int .i64 j.b) ∧ w.cell? ⟨(a.add (i.toNat * 6)).block, (a.add (i.toNat * 6)).off + 2, none⟩ = some (.int .i64 j.c) ∧ w.cell? ⟨(a.add (i.toNat * 6)).block, (a.add (i.toNat * 6)).off + 3, none⟩ = some (.int .i64 j.d) ∧ w.cell? ⟨(a.add (i.toNat * 6)).block, (a.add (i.toNat * 6)).off + 4, none⟩ = some (.int .i64 u) ∧ w.cell? ⟨(a.add (i.toNat * 6)).block, (a.add (i.toNat * 6)).off + 5, none⟩ = some (.int .i64 t)

theorem cells31 : Try.prog.cellsOf 31 = 6 := by kernel_rfl

theorem deeds_of {w : World} {A : Option Addr} {len : Nat} (h : ∀ i, i < len → ∃ a, A = some a ∧ ∀ o k, (o, k) ∈ [(0, Args.Bs.int .i64), (1, Args.Bs.int .i64), (2, Args.Bs.int .i64), (3, Args.Bs.int .i64), (4, Args.Bs.int .i64), (5, Args.Bs.int .i64)] → ∃ v, w.cell? (a.add (i * Try.prog.cellsOf 31 + o)) = some v ∧ k.fit v) : Deeds w A len := by
  intro i h0 h1
  obtain ⟨a, hA, hc⟩ := h i.toNat (by omega)
  rw [cells31] at hc
  obtain ⟨v0, hv0, x0, rfl, w0⟩ := hc 0 (.int .i64) (by simp)
  obtain ⟨v1, hv1, x1, rfl, w1⟩ := hc 1 (.int .i64) (by simp)
  obtain ⟨v2, hv2, x2, rfl, w2⟩ := hc 2 (.int .i64) (by simp)
  obtain ⟨v3, hv3, x3, rfl, w3⟩ := hc 3 (.int .i64) (by simp)
  obtain ⟨v4, hv4, x4, rfl, _⟩ := hc 4 (.int .i64) (by simp)
  obtain ⟨v5, hv5, x5, rfl, _⟩ := hc 5 (.int .i64) (by simp)
  exact ⟨a, ⟨x0, x1, x2, x3⟩, x4, x5, hA, ⟨w0, w1, w2, w3⟩, hv0, by rw [← add_field a (i.toNat * 6) 1 (by omega)]; exact hv1, by rw [← add_field a (i.toNat * 6) 2 (by omega)]; exact hv2, by rw [← add_field a (i.toNat * 6) 3 (by omega)]; exact hv3, by rw [← add_field a (i.toNat * 6) 4 (by omega)]; exact hv4, by rw [← add_field a (i.toNat * 6) 5 (by omega)]; exact hv5⟩

theorem mark_len (L : List (K4 × Int)) (k : K4) (u n : Int) : (markL L k u n).2.length ≤ L.length + 1 := by
  have := List.length_filter_le (fun p : K4 × Int => decide (cl n < p.2)) L
  unfold markL
  split
  · simp only; omega
  · simp only [List.length_append, List.length_singleton]; omega

/-- A key that was seen is kept, or does not matter any more. -/
def Once (k : K4) (u : Int) (L : List (K4 × Int)) (now f : Int) : Prop := f = 0 ∨ f = 1 ∧ ((k, cl u) ∈ L ∨ cl u ≤ now)

theorem mem_mark {L : List (K4 × Int)} {j : K4} {u n : Int} {p : K4 × Int} (h : p ∈ L) (hn : cl n < p.2) : p ∈ (markL L j u n).2 := by
  have : p ∈ L.filter (fun p => decide (cl n < p.2)) := List.mem_filter.2 ⟨h, by simpa using hn⟩
  unfold markL
  split
  · exact this
  · exact List.mem_append.2 (.inl this)

theorem once_any {k j : K4} {u u2 now n f : Int} {L : List (K4 × Int)} (h : Once k u L now f) (hn : now ≤ n) (hc : cl n = n) : Once k u (markL L j u2 n).2 n f := by
  rcases h with h | ⟨h, h1 | h1⟩
  · exact .inl h
  · by_cases hu : cl u ≤ n
    · exact .inr ⟨h, .inr hu⟩
    · exact .inr ⟨h, .inl (mem_mark h1 (by rw [hc]; simp only; omega))⟩
  · exact .inr ⟨h, .inr (by omega)⟩

theorem once_same {k : K4} {u now n f : Int} {L : List (K4 × Int)} (h : Once k u L now f) (hn : now ≤ n) (hc : cl n = n) (hm : (markL L k u n).1 = true) : f = 0 ∧ ¬ cl u ≤ n ∧ (k, cl u) ∈ (markL L k u n).2 := by
  unfold markL at hm ⊢
  split at hm
  · cases hm
  · rename_i hno
    rw [if_neg hno]
    rw [hc] at hno
    have h1 : ¬ cl u ≤ n := fun h => hno (.inr (.inl h))
    refine ⟨?_, h1, by simp⟩
    rcases h with h | ⟨h, h2 | h2⟩
    · exact h
    · refine absurd (.inl ?_) hno
      exact List.any_eq_true.2 ⟨(k, cl u), List.mem_filter.2 ⟨h2, by simp; omega⟩, by simp⟩
    · omega

theorem clamp_s (a : Int) (w : World) : Calls Try.prog 8 #[.int .i64 a] w fun e w' => e = .returned (.int .i64 (cl a)) ∧ w = w' := (clamp_r a w).mono fun _ _ h => ⟨h.1, h.2.symm⟩

set_option maxHeartbeats 8000000 in
set_option maxRecDepth 100000 in
theorem once_walk (k : K4) (hk : k.wf) (u : Int) (A : Option Addr) (len cap : Nat) (w : World) (hd : Deeds w A len) (hlen : len ≤ maxLen) :
    Calls Try.prog 3 #[k.v, .int .i64 u, .slice A len cap] w fun e w' => e = .returned (.bool true) ∧ Below w.heap.size w w' := by
  unfold maxLen at hlen
  have HD := Lib.hid hd
  have HKW := Lib.hid hk
  clear hd hk
  have HO1 : Hid (Only (fun _ => False) w (w.alloc (.cells #[.int .i64 k.a, .int .i64 k.b, .int .i64 k.c, .int .i64 k.d] 25))) := Lib.hid ((Only.refl _ w).alloc _)
  have HK1 := Lib.hid (heap_alloc_new w (.cells #[.int .i64 k.a, .int .i64 k.b, .int .i64 k.c, .int .i64 k.d] 25))
  have hq1 := blk_lt HK1.out
  unfold K4.v
  go_enter Try.func3, Try.ntmps3
  go_wp2_with fail
  generalize w.alloc (.cells #[.int .i64 k.a, .int .i64 k.b, .int .i64 k.c, .int .i64 k.d] 25) = w1 at *
  refine (new_p _).mono ?_
  rintro e w2 ⟨rfl, h2, o2⟩
  generalize w1.heap.size = b at *
  have hqb : w.heap.size ≠ b := by omega
  have H2 := Lib.hid h2
  have O2 : Hid (Below w.heap.size w w2) := Lib.hid ((HO1.out.trans o2).below (Below.refl _ _) (Nat.le_refl _) (fun _ h => h.elim))
  have K2 := Lib.hid (o2.blk HK1.out (fun h => h))
  clear h2 o2
  obtain ⟨g, hg⟩ : ∃ g, g = b + 1 := ⟨_, rfl⟩
  rw [← hg] at H2
  rw [← hg]
  clear hg
  go_wp2
  go_loopw [8, 9, 10] (fun vn vf vi wr => ∃ (L : List (K4 × Int)) (now f i : Int), vn = .int .i64 now ∧ vf = .int .i64 f ∧ vi = .int .i64 i ∧ 0 ≤ i ∧ i ≤ 80 ∧ 0 ≤ f ∧ f ≤ 1 ∧ Hid (SS wr g b L) ∧ Hid (Below w.heap.size w wr) ∧ Hid (wr.heap[w.heap.size]? = some (.cells #[.int .i64 k.a, .int .i64 k.b, .int .i64 k.c, .int .i64 k.d] 25 (0, 0))) ∧ Hid (Once k u L now f) ∧ Hid (0 ≤ now ∧ now ≤ 1125899906842624) ∧ Hid ((L.length : Int) ≤ i)) (fun _ _ vi _ => (80 - intOf vi).toNat)
  case atStart => exact ⟨[], 0, 0, 0, rfl, rfl, rfl, by omega, by omega, by omega, by omega, H2, O2, K2, Lib.hid (.inl rfl), Lib.hid ⟨by omega, by omega⟩, Lib.hid (by simp)⟩
  case round =>
    obtain ⟨L, now, f, i, rfl, rfl, rfl, hi0, hi1, hf0, hf1, HS, HB, HK, HJ, HN, HL⟩ := hrel
    have hgo : (i < (len : Int) ∧ i < 80) ∨ (i < (len : Int) ∧ ¬ i < 80) ∨ ¬ i < (len : Int) := by omega
    rcases hgo with ⟨hlt, h80⟩ | ⟨hlt, h80⟩ | hlt
    · obtain ⟨ad, j, u2, t, hA, hjw, a0, a1, a2, a3, a4, a5⟩ := HD.out i hi0 hlt
      cases hA
      have HJW := Lib.hid hjw
      have A0 := Lib.hid a0
      have A1 := Lib.hid a1
      have A2 := Lib.hid a2
      have A3 := Lib.hid a3
      have A4 := Lib.hid a4
      have A5 := Lib.hid a5
      clear a0 a1 a2 a3 a4 a5 hjw
      have hc0 := (HB.out.cell (World.block_lt_of_cell? w _ A0.out)).trans A0.out
      have hc1 := (HB.out.cell (World.block_lt_of_cell? w _ A1.out)).trans A1.out
      have hc2 := (HB.out.cell (World.block_lt_of_cell? w _ A2.out)).trans A2.out
      have hc3 := (HB.out.cell (World.block_lt_of_cell? w _ A3.out)).trans A3.out
      have hc4 := (HB.out.cell (World.block_lt_of_cell? w _ A4.out)).trans A4.out
      have hc5 := (HB.out.cell (World.block_lt_of_cell? w _ A5.out)).trans A5.out
      have hk0 : wr.cell? ⟨w.heap.size, 0, none⟩ = some (.int .i64 k.a) := cell_at HK.out 0 rfl
      have hk1 : wr.cell? ⟨w.heap.size, 1, none⟩ = some (.int .i64 k.b) := cell_at HK.out 1 rfl
      have hk2 : wr.cell? ⟨w.heap.size, 2, none⟩ = some (.int .i64 k.c) := cell_at HK.out 2 rfl
      have hk3 : wr.cell? ⟨w.heap.size, 3, none⟩ = some (.int .i64 k.d) := cell_at HK.out 3 rfl
      have hcb := cl_bounds t
      obtain ⟨n, hn⟩ : ∃ n, mx now (cl t) = n := ⟨_, rfl⟩
      have hn2 : now ≤ n ∧ cl n = n ∧ 0 ≤ n ∧ n ≤ 1125899906842624 := by
        have := HN.out
        have h1 : now ≤ n ∧ 0 ≤ n ∧ n ≤ 1125899906842624 := by rcases mx_cases now (cl t) with h | h <;> omega
        exact ⟨h1.1, cl_same n h1.2.1 h1.2.2, h1.2⟩
      obtain ⟨hn3, hn4, hn5⟩ := hn2
      have HN3 := Lib.hid hn3
      have HN4 := Lib.hid hn4
      have HN5 := Lib.hid hn5
      have HMX := Lib.hid hn
      clear hcb hn hn3 hn4 hn5
      by_cases hjk : j = k
      · subst hjk
        have hneq : ∀ w, (binOp .neq 25 (.agg #[.int .i64 j.a, .int .i64 j.b, .int .i64 j.c, .int .i64 j.d]) (.agg #[.int .i64 j.a, .int .i64 j.b, .int .i64 j.c, .int .i64 j.d])).run Try.prog w = .ok (.bool false) w := fun w => by rw [neq25]; simp
        go_wp2_with (go_at_call 8; refine (clamp_s _ _).mono ?_; rintro e w' ⟨rfl, rfl⟩)
        rw [HMX.out]
        go_quiet (fail)
        have HS2 : Hid (SS (wr.drewN nq) g b L) := Lib.hid ⟨HS.out.blk, HS.out.map⟩
        have HB2 : Hid (Below w.heap.size w (wr.drewN nq)) := Lib.hid (((Only.refl (fun _ => False) wr).drewN nq).below HB.out HB.out.size (fun _ h => h.elim))
        have HK2 : Hid ((wr.drewN nq).heap[w.heap.size]? = some (.cells #[.int .i64 j.a, .int .i64 j.b, .int .i64 j.c, .int .i64 j.d] 25 (0, 0))) := Lib.hid HK.out
        generalize wr.drewN nq = wq at *
        have hk0 : wq.cell? ⟨w.heap.size, 0, none⟩ = some (.int .i64 j.a) := cell_at HK2.out 0 rfl
        have hk1 : wq.cell? ⟨w.heap.size, 1, none⟩ = some (.int .i64 j.b) := cell_at HK2.out 1 rfl
        have hk2 : wq.cell? ⟨w.heap.size, 2, none⟩ = some (.int .i64 j.c) := cell_at HK2.out 2 rfl
        have hk3 : wq.cell? ⟨w.heap.size, 3, none⟩ = some (.int .i64 j.d) := cell_at HK2.out 3 rfl
        have hmk := mark_p wq HS2.out j HKW.out u n (by have := HL.out; omega)
        have hla := once_any (u2 := u) (j := j) HJ.out HN3.out HN4.out
        have hls := once_same HJ.out HN3.out HN4.out
        have hle := mark_len L j u n
        generalize (markL L j u n).2 = L2 at *
        obtain ⟨x, hx⟩ : ∃ x, x = (markL L j u n).1 := ⟨_, rfl⟩
        rw [← hx] at hmk hls
        have HMK := Lib.hid hmk
        have HL2 : Hid ((L2.length : Int) ≤ i + 1) := Lib.hid (by have := HL.out; omega)
        have HLA := Lib.hid hla
        have HLS := Lib.hid hls
        clear hmk hla hls hle hx
        go_wp2_with fail
        refine HMK.out.mono ?_
        rintro e w3 ⟨rfl, h3, o3⟩
        have H3 := Lib.hid h3
        have B3 : Hid (Below w.heap.size w w3) := Lib.hid (o3.below HB2.out HB2.out.size (fun k e => by omega))
        have K3 := Lib.hid (o3.blk HK2.out hqb)
        clear h3 o3
        cases x
        · go_wp2
          go_roundw
          case rel => exact ⟨L2, n, f, i + 1, rfl, rfl, by go_num, by omega, by omega, hf0, hf1, H3, B3, K3, HLA, HN5, HL2⟩
          case measure => simp [intOf]; omega
        · obtain ⟨hf, hu, hm⟩ := HLS.out rfl
          subst hf
          have HJ2 : Hid (Once j u L2 n 1) := Lib.hid (.inr ⟨rfl, .inl hm⟩)
          clear hm
          go_wp2_with (go_at_call 8; refine (clamp_s _ _).mono ?_; rintro e w' ⟨rfl, rfl⟩)
          go_roundw
          case rel => exact ⟨L2, n, 1, i + 1, rfl, by go_num, by go_num, by omega, by omega, by omega, by omega, H3, B3, K3, HJ2, HN5, HL2⟩
          case measure => simp [intOf]; omega
      · have hneq : ∀ w, (binOp .neq 25 (.agg #[.int .i64 j.a, .int .i64 j.b, .int .i64 j.c, .int .i64 j.d]) (.agg #[.int .i64 k.a, .int .i64 k.b, .int .i64 k.c, .int .i64 k.d])).run Try.prog w = .ok (.bool true) w := fun w => by rw [neq25]; simp [hjk]
        go_wp2_with (go_at_call 8; refine (clamp_s _ _).mono ?_; rintro e w' ⟨rfl, rfl⟩)
        rw [HMX.out]
        go_quiet (fail)
        have HS2 : Hid (SS (wr.drewN nq) g b L) := Lib.hid ⟨HS.out.blk, HS.out.map⟩
        have HB2 : Hid (Below w.heap.size w (wr.drewN nq)) := Lib.hid (((Only.refl (fun _ => False) wr).drewN nq).below HB.out HB.out.size (fun _ h => h.elim))
        have HK2 : Hid ((wr.drewN nq).heap[w.heap.size]? = some (.cells #[.int .i64 k.a, .int .i64 k.b, .int .i64 k.c, .int .i64 k.d] 25 (0, 0))) := Lib.hid HK.out
        generalize wr.drewN nq = wq at *
        have hd0 := (HB2.out.cell (World.block_lt_of_cell? w _ A0.out)).trans A0.out
        have hd1 := (HB2.out.cell (World.block_lt_of_cell? w _ A1.out)).trans A1.out
        have hd2 := (HB2.out.cell (World.block_lt_of_cell? w _ A2.out)).trans A2.out
        have hd3 := (HB2.out.cell (World.block_lt_of_cell? w _ A3.out)).trans A3.out
        have hd4 := (HB2.out.cell (World.block_lt_of_cell? w _ A4.out)).trans A4.out
        have HMK := Lib.hid (mark_p wq.drew ⟨HS2.out.blk, HS2.out.map⟩ j HJW.out u2 n (by have := HL.out; omega))
        have HLA := Lib.hid (once_any (u2 := u2) (j := j) HJ.out HN3.out HN4.out)
        have hle := mark_len L j u2 n
        generalize (markL L j u2 n).2 = L2 at *
        generalize (markL L j u2 n).1 = x at *
        have HL2 : Hid ((L2.length : Int) ≤ i + 1) := Lib.hid (by have := HL.out; omega)
        clear hle
        go_wp2
        go_still_tail 12, (by kernel_rfl)
        repeat still_step
        change wpList _ _ _ _ _ wq.drew
        go_wp2_with (go_at_call 9; refine HMK.out.mono ?_; rintro e w3 ⟨rfl, h3, o3⟩; have H3 := Lib.hid h3; have B3 : Hid (Below w.heap.size w w3) := Lib.hid (o3.below (below_drew HB2.out) HB2.out.size (fun k e => by omega)); have K3 := Lib.hid (o3.blk HK2.out hqb); clear h3 o3)
        go_roundw
        case rel => exact ⟨L2, n, f, i + 1, rfl, rfl, by go_num, by omega, by omega, hf0, hf1, H3, B3, K3, HLA, HN5, HL2⟩
        case measure => simp [intOf]; omega
    all_goals
      have hle : L.length ≤ 512 := by have := HL.out; omega
      have HLN := Lib.hid (len_p wr HS.out)
      obtain ⟨m, hm⟩ : ∃ m, m = L.length := ⟨_, rfl⟩
      rw [← hm] at HLN hle
      have hle' : (m : Int) ≤ 512 := by omega
      clear hm
      go_wp2_with (first | (go_at_call 10; refine HLN.out.mono ?_; rintro e w' ⟨rfl, rfl⟩) | (go_at_call 11; refine (awake_p _).mono ?_; rintro e w5 ⟨rfl, ho5⟩; have HO5 := Lib.hid ho5; clear ho5))
      go_ret
      exact ⟨rfl, HO5.out.below HB.out HB.out.size (fun _ h => h.elim)⟩

end Go.Proofs.Ytlgibnjhegoefaa.Sn

/- Hist: Quantile; the example. -/
import Derived.Test.YtognnjhphnhbfaaHiR
set_option linter.unusedVariables false
set_option linter.unusedSimpArgs false
namespace Go.Proofs.Ytognnjhphnhbfaa.Hi
open Go.RowKit Go.Maps Go.Proofs.Ytognnjhphnhbfaa.Base Go.Proofs.Ytognnjhphnhbfaa.Rws Go.Proofs.YtognnjhphnhbfaaW.PrintWords Go.Proofs.YtognnjhphnhbfaaW.PrintMore
attribute [local go_sem] max2_mx min2_mn max_two min_two max_three min_three max_four min_four

/-- The first row at which so many are reached. -/
def scanQ : List Rw → Int → Option Int
  | [], _ => none
  | r :: l, k => if k - r.n ≤ 0 then some r.lw else scanQ l (k - r.n)

/-- Which one it is, from 1 on. -/
def kOf (n : Nat) (p : Int) : Int := mx (((n : Int) * mn (mx p 0) 1000 + 999) / 1000) 1

def quantM (is : List Int) (p : Int) : Int × Bool :=
  if is.length = 0 then (0, false) else match scanQ (rowsM is) (kOf is.length p) with | some x => (x, true) | none => (0, false)

theorem kOf_steps (n : Nat) (hn : n ≤ 1000) (p : Int) : wrap64 ((n : Int) * mn (mx p 0) 1000) = (n : Int) * mn (mx p 0) 1000 ∧ wrap64 ((n : Int) * mn (mx p 0) 1000 + 999) = (n : Int) * mn (mx p 0) 1000 + 999 ∧ Int.tdiv ((n : Int) * mn (mx p 0) 1000 + 999) 1000 = ((n : Int) * mn (mx p 0) 1000 + 999) / 1000 ∧ 1 ≤ kOf n p ∧ kOf n p ≤ 1000000 ∧ wrap64 (((n : Int) * mn (mx p 0) 1000 + 999) / 1000) = ((n : Int) * mn (mx p 0) 1000 + 999) / 1000 := by
  have h1 : 0 ≤ mn (mx p 0) 1000 ∧ mn (mx p 0) 1000 ≤ 1000 := by unfold mn mx; split <;> (try split) <;> omega
  unfold kOf
  generalize mn (mx p 0) 1000 = q at *
  have h2 : 0 ≤ (n : Int) * q := Int.mul_nonneg (by omega) h1.1
  have h3 : (n : Int) * q ≤ 1000 * 1000 := Int.mul_le_mul (by omega) h1.2 h1.1 (by omega)
  generalize (n : Int) * q = x at *
  refine ⟨by unfold wrap64; omega, by unfold wrap64; omega, Int.tdiv_eq_ediv_of_nonneg (by omega), ?_, ?_, by unfold wrap64; omega⟩ <;> (unfold mx; split <;> omega)

theorem rows_n (is : List Int) : ∀ r ∈ rowsM is, 0 ≤ r.n ∧ r.n ≤ is.length ∧ 0 ≤ r.lw := by
  intro r hr
  obtain ⟨i, _, rfl⟩ := List.mem_map.1 hr
  have h1 : is.count i ≤ is.length := List.count_le_length
  refine ⟨by show (0 : Int) ≤ (is.count i : Nat); omega, by show ((is.count i : Nat) : Int) ≤ _; omega, ?_⟩
  show 0 ≤ low i
  unfold low
  split
  · exact Int.le_refl _
  · split <;> omega

theorem quant_nil (p : Int) (w : World) : Calls Try.prog 18 #[.pointer none, .int .i64 p] w fun e w' => e = .returned (.tuple #[.int .i64 0, .bool false]) ∧ w = w' := by
  go_enter Try.func18, Try.ntmps18
  go_wp2_with (go_at_call 20; refine (len_nil _).mono ?_; rintro e w' ⟨rfl, rfl⟩)
  go_ret2
  exact ⟨rfl, rfl⟩

set_option maxHeartbeats 4000000 in
set_option maxRecDepth 100000 in
theorem quant_p {g b : Nat} {is : List Int} (w : World) (h : HS w g b is) (hl : is.length ≤ 1000) (p : Int) :
    Calls Try.prog 18 #[.pointer (some ⟨g, 0, none⟩), .int .i64 p] w fun e w' => e = .returned (.tuple #[.int .i64 (quantM is p).1, .bool (quantM is p).2]) ∧ HS w' g b is ∧ Only (fun k => k = b) w w' := by
  have HG := Lib.hid h
  obtain ⟨N, hN⟩ : ∃ N, N = is.length := ⟨_, rfl⟩
  have HLEN : Hid (∀ w1, HS w1 g b is → Calls Try.prog 20 #[.pointer (some ⟨g, 0, none⟩)] w1 fun e w' => e = .returned (.int .i64 (N : Int)) ∧ w1 = w') := Lib.hid (fun w1 h => by rw [hN]; exact len_p w1 h)
  by_cases h0 : N = 0
  · have hq : quantM is p = (0, false) := by unfold quantM; rw [if_pos (by rw [← hN]; exact h0)]
    rw [hq]
    have hb : ((N : Int) == 0) = true := by simp [h0]
    clear h h0 hN hl hq
    go_enter Try.func18, Try.ntmps18
    go_wp2_with (go_at_call 20; refine (HLEN.out _ HG.out).mono ?_; rintro e w' ⟨rfl, rfl⟩)
    go_ret2
    exact ⟨rfl, HG.out, Only.refl _ _⟩
  · have hq : quantM is p = match scanQ (rowsM is) (kOf N p) with | some x => (x, true) | none => (0, false) := by unfold quantM; rw [if_neg (by rw [← hN]; exact h0), ← hN]
    obtain ⟨Q, hQ⟩ : ∃ Q, Q = quantM is p := ⟨_, rfl⟩
    rw [← hQ] at hq ⊢
    have HQ := Lib.hid hq
    have hb : ((N : Int) == 0) = false := by simp [h0]
    have hc1 : w.cell? ⟨g, 1, none⟩ = some (.int .i64 (N : Int)) := by rw [hN]; exact cell_at h.blk 1 rfl
    have HR := Lib.hid (rows_p w h hl)
    have HN1 := Lib.hid (rows_n is)
    have HLL : Hid (is.length ≤ 1000) := Lib.hid hl
    obtain ⟨k1, k2, k3, k4, k5, k6⟩ := kOf_steps N (by omega) p
    obtain ⟨k, hk⟩ : ∃ k, k = kOf N p := ⟨_, rfl⟩
    rw [← hk] at HQ k4 k5
    have hk' : mx (((N : Int) * mn (mx p 0) 1000 + 999) / 1000) 1 = k := by rw [hk]; rfl
    have HK : Hid (1 ≤ k ∧ k ≤ 1000000) := Lib.hid ⟨k4, k5⟩
    clear h h0 hN hl hq hQ hk k4 k5
    go_enter Try.func18, Try.ntmps18
    go_wp2_with (first | (go_at_call 20; refine (HLEN.out _ HG.out).mono ?_; rintro e w' ⟨rfl, rfl⟩) | (go_at_call 24; refine HR.out.mono ?_; rintro e w2 ⟨v2, rfl, hr2, hh2, ho2⟩; have HR2 := Lib.hid hr2; have HH2 := Lib.hid hh2; have HOW := Lib.hid ho2; obtain ⟨A, cp, rfl, _⟩ := hr2.form; clear hr2 hh2 ho2))
    obtain ⟨M, hM⟩ : ∃ M, M = (rowsM is).length := ⟨_, rfl⟩
    have HM := Lib.hid hM
    have hM1 : M ≤ 1000 := by
      have h1 := keys_len is
      have h2 := HLL.out
      rw [hM]
      unfold rowsM
      rw [List.length_map]
      omega
    rw [← hM]
    clear hM
    go_loopw [6, 26, 8] (fun v6 v26 _ wr => ∃ (j : Nat) (kj : Int), v6 = .int .i64 kj ∧ v26 = .int .i64 (j : Int) ∧ j ≤ M ∧ Hid (-1000000 ≤ kj ∧ kj ≤ 1000000 ∧ 0 < kj) ∧ Hid (Q = match scanQ ((rowsM is).drop j) kj with | some x => (x, true) | none => (0, false)) ∧ Hid (Only (fun _ => False) w2 wr)) (fun _ v26 _ _ => M - (RowKit.intOf v26).toNat)
    case atStart => exact ⟨0, k, rfl, rfl, Nat.zero_le _, Lib.hid (by have := HK.out; omega), HQ, Lib.hid (Only.refl _ _)⟩
    case round =>
      obtain ⟨j, kj, rfl, rfl, hj, HKJ, HQJ, HO⟩ := hrel
      have hgo : j < M ∨ j = M := by omega
      rcases hgo with hlt | rfl
      · have hlt' : (j : Int) < (M : Int) := by omega
        obtain ⟨x, hx⟩ : ∃ x, (rowsM is)[j]? = some x := ⟨(rowsM is)[j]'(by have := HM.out; omega), List.getElem?_eq_getElem _⟩
        have hxn := HN1.out x (List.mem_of_getElem? hx)
        have HRr := HR2.out.only HO.out (fun _ _ h => h)
        rw [← HM.out] at HRr
        obtain ⟨q, o, c', he, hcc⟩ := Row.some_ HRr (by omega)
        injection he with e1 e2 e3
        subst e1 e3
        have hx0 : wr.cell? ⟨q, o + j * 3, none⟩ = some (.int .i64 x.lw) := Row.cell HRr (j * 3) (encR_at _ j 0 x hx (by omega))
        have hx1 : wr.cell? ⟨q, o + j * 3 + 1, none⟩ = some (.int .i64 x.hg) := Row.cell HRr (j * 3 + 1) (encR_at _ j 1 x hx (by omega))
        have hx2 : wr.cell? ⟨q, o + j * 3 + 2, none⟩ = some (.int .i64 x.n) := Row.cell HRr (j * 3 + 2) (encR_at _ j 2 x hx (by omega))
        have hdr : (rowsM is).drop j = x :: (rowsM is).drop (j + 1) := by
          have hjl : j < (rowsM is).length := (List.getElem?_eq_some_iff.1 hx).1
          rw [List.drop_eq_getElem_cons hjl]
          rw [List.getElem?_eq_getElem hjl] at hx
          rw [Option.some.inj hx]
        have HQ1 : Hid (Q = match (if kj - x.n ≤ 0 then some x.lw else scanQ ((rowsM is).drop (j + 1)) (kj - x.n)) with | some x => (x, true) | none => (0, false)) := Lib.hid (by have := HQJ.out; rw [hdr] at this; exact this)
        have hwk : wrap64 (kj - x.n) = kj - x.n := by have h1 := HKJ.out; have h2 := HLL.out; unfold wrap64; omega
        have HO2 : Hid (Only (fun _ => False) w2 (wr.alloc (.cells #[.int .i64 x.lw, .int .i64 x.hg, .int .i64 x.n] 44))) := Lib.hid (HO.out.alloc _)
        have y0 := box_cell wr #[.int .i64 x.lw, .int .i64 x.hg, .int .i64 x.n] 44 0 rfl
        have y2 := box_cell wr #[.int .i64 x.lw, .int .i64 x.hg, .int .i64 x.n] 44 2 rfl
        have HKN : Hid (-1000000 ≤ kj - x.n ∧ kj - x.n ≤ 1000000) := Lib.hid (by have h1 := HKJ.out; have h2 := HLL.out; omega)
        clear hx hdr HRr hxn hcc
        by_cases hk0 : kj - x.n ≤ 0
        · rw [if_pos hk0] at HQ1
          have hd : decide (kj - x.n ≤ 0) = true := decide_eq_true hk0
          clear hk0
          go_wp2
          go_ret2
          rw [HQ1.out]
          exact ⟨rfl, HH2.out.only HO2.out (fun h => h) (fun h => h), HOW.out.trans (HO2.out.mono (fun _ h => h.elim))⟩
        · rw [if_neg hk0] at HQ1
          have hd : decide (kj - x.n ≤ 0) = false := decide_eq_false hk0
          have HK0 : Hid (0 < kj - x.n) := Lib.hid (by omega)
          clear hk0
          go_wp2
          go_roundw
          case rel => exact ⟨j + 1, kj - x.n, by go_num, by go_num, by omega, Lib.hid ⟨HKN.out.1, HKN.out.2, HK0.out⟩, HQ1, HO2⟩
          case measure => simp [RowKit.intOf]; omega
      · have hge : ¬ (j : Int) < j := by omega
        have HQ1 : Hid (Q = (0, false)) := Lib.hid (by
          have := HQJ.out
          rw [List.drop_eq_nil_of_le (by have := HM.out; omega)] at this
          exact this)
        go_wp2
        go_ret2
        rw [HQ1.out]
        exact ⟨rfl, HH2.out.only HO.out (fun h => h) (fun h => h), HOW.out.trans (HO.out.mono (fun _ h => h.elim))⟩


/-! ### The example -/
theorem ex_keys : keysM [64, 64, 65] = [64, 65] := by
  have h := keysM_of (is := [64, 64, 65]) (ss := [64, 65]) (by decide) (by intro x; simp)
  rw [← h]
  exact List.mergeSort_of_pairwise (by simp [leI])
theorem ex_quant : quantM [64, 64, 65] 1000 = (66, true) := by
  unfold quantM rowsM
  rw [ex_keys]
  decide +kernel
theorem ex_i : idx 64 = 64 ∧ idx 65 = 64 ∧ idx 66 = 65 := by decide +kernel

set_option maxHeartbeats 4000000 in
set_option maxRecDepth 100000 in
theorem awake_p (w : World) : Calls Try.prog 14 #[] w fun e w' => e = .returned (.bool true) ∧ Only (fun _ => False) w w' := by
  obtain ⟨e64, e65, e66⟩ := ex_i
  have HX64 : Hid (∀ w, Calls Try.prog 8 #[.int .i64 64] w fun e w' => e = .returned (.int .i64 64) ∧ w = w') := Lib.hid (fun w => by have := index_p 64 w; rw [e64] at this; exact this)
  have HX65 : Hid (∀ w, Calls Try.prog 8 #[.int .i64 65] w fun e w' => e = .returned (.int .i64 64) ∧ w = w') := Lib.hid (fun w => by have := index_p 65 w; rw [e65] at this; exact this)
  have HX66 : Hid (∀ w, Calls Try.prog 8 #[.int .i64 66] w fun e w' => e = .returned (.int .i64 65) ∧ w = w') := Lib.hid (fun w => by have := index_p 66 w; rw [e66] at this; exact this)
  obtain ⟨g, hg⟩ : ∃ g, g = w.heap.size + 1 := ⟨_, rfl⟩
  obtain ⟨b, hb⟩ : ∃ b, b = w.heap.size := ⟨_, rfl⟩
  have HN := Lib.hid (new_p w)
  rw [← hg, ← hb] at HN
  have HA1 : Hid (∀ w1, HS w1 g b [] → Calls Try.prog 28 #[.pointer (some ⟨g, 0, none⟩), .int .i64 64] w1 fun e w' => e = .returned (.int .i64 0) ∧ HS w' g b [64] ∧ Only (fun k => k = g ∨ k = b) w1 w') := Lib.hid (fun w1 h => by have := add_p w1 h 64 (by decide); rw [e64] at this; exact this)
  have HA2 : Hid (∀ w1, HS w1 g b [64] → Calls Try.prog 28 #[.pointer (some ⟨g, 0, none⟩), .int .i64 65] w1 fun e w' => e = .returned (.int .i64 0) ∧ HS w' g b [64, 64] ∧ Only (fun k => k = g ∨ k = b) w1 w') := Lib.hid (fun w1 h => by have := add_p w1 h 65 (by decide); rw [e65] at this; exact this)
  have HA3 : Hid (∀ w1, HS w1 g b [64, 64] → Calls Try.prog 28 #[.pointer (some ⟨g, 0, none⟩), .int .i64 66] w1 fun e w' => e = .returned (.int .i64 0) ∧ HS w' g b [64, 64, 65] ∧ Only (fun k => k = g ∨ k = b) w1 w') := Lib.hid (fun w1 h => by have := add_p w1 h 66 (by decide); rw [e66] at this; exact this)
  have HQ : Hid (∀ w1, HS w1 g b [64, 64, 65] → Calls Try.prog 18 #[.pointer (some ⟨g, 0, none⟩), .int .i64 1000] w1 fun e w' => e = .returned (.tuple #[.int .i64 66, .bool true]) ∧ HS w' g b [64, 64, 65] ∧ Only (fun k => k = b) w1 w') := Lib.hid (fun w1 h => by have := quant_p w1 h (by decide) 1000; rw [ex_quant] at this; exact this)
  have HL : Hid (∀ w1, HS w1 g b [64, 64, 65] → Calls Try.prog 20 #[.pointer (some ⟨g, 0, none⟩)] w1 fun e w' => e = .returned (.int .i64 3) ∧ w1 = w') := Lib.hid (fun w1 h => len_p w1 h)
  have HC : Hid (∀ w1, HS w1 g b [64, 64, 65] → Calls Try.prog 21 #[.pointer (some ⟨g, 0, none⟩), .int .i64 64] w1 fun e w' => e = .returned (.int .i64 2) ∧ w1 = w') := Lib.hid (fun w1 h => count_p w1 h 64 (by decide))
  have HGB : Hid (w.heap.size ≤ g ∧ w.heap.size ≤ b) := Lib.hid (by omega)
  clear hg hb e64 e65 e66
  go_enter Try.func14, Try.ntmps14
  go_wp2_with (first
    | (go_at_call 31; refine HN.out.mono ?_; rintro e w1 ⟨rfl, h1, o1⟩; have H1 := Lib.hid h1; have O1 := Lib.hid o1; clear h1 o1)
    | (go_at_call 28; with_reducible refine (HA1.out _ H1.out).mono ?_; rintro e w2 ⟨rfl, h1, o1⟩; have H2 := Lib.hid h1; have O2 : Hid (Only (fun _ => False) w w2) := Lib.hid (O1.out.then_ o1 (fun k hk => .inr (by have := HGB.out; omega))); clear h1 o1)
    | (go_at_call 28; with_reducible refine (HA2.out _ H2.out).mono ?_; rintro e w3 ⟨rfl, h1, o1⟩; have H3 := Lib.hid h1; have O3 : Hid (Only (fun _ => False) w w3) := Lib.hid (O2.out.then_ o1 (fun k hk => .inr (by have := HGB.out; omega))); clear h1 o1)
    | (go_at_call 28; with_reducible refine (HA3.out _ H3.out).mono ?_; rintro e w4 ⟨rfl, h1, o1⟩; have H4 := Lib.hid h1; have O4 : Hid (Only (fun _ => False) w w4) := Lib.hid (O3.out.then_ o1 (fun k hk => .inr (by have := HGB.out; omega))); clear h1 o1)
    | (go_at_call 18; refine (HQ.out _ H4.out).mono ?_; rintro e w5 ⟨rfl, h1, o1⟩; have H5 := Lib.hid h1; have O5 : Hid (Only (fun _ => False) w w5) := Lib.hid (O4.out.then_ o1 (fun k hk => .inr (by have := HGB.out; omega))); clear h1 o1)
    | (go_at_call 8; with_reducible refine (HX64.out _).mono ?_; rintro e w' ⟨rfl, rfl⟩)
    | (go_at_call 8; with_reducible refine (HX65.out _).mono ?_; rintro e w' ⟨rfl, rfl⟩)
    | (go_at_call 8; with_reducible refine (HX66.out _).mono ?_; rintro e w' ⟨rfl, rfl⟩)
    | (go_at_call 20; refine (HL.out _ H5.out).mono ?_; rintro e w' ⟨rfl, rfl⟩)
    | (go_at_call 21; refine (HC.out _ H5.out).mono ?_; rintro e w' ⟨rfl, rfl⟩))
  go_ret
  exact ⟨rfl, O5.out⟩

end Go.Proofs.Ytognnjhphnhbfaa.Hi

/- The walk of BagPlays. -/
import Derived.Test.YthgkcjcmliaanaaBgZ
import Derived.Test.YthgkcjcmliaanaaArgs
import Derived.OrdersHeld
set_option linter.unusedVariables false
set_option linter.unusedSimpArgs false
namespace Go.Proofs.Ythgkcjcmliaanaa.Bg
open Go.RowKit Go.Proofs.Ythgkcjcmliaanaa.Base Go.Proofs.Ythgkcjcmliaanaa.Rws Go.Proofs.YthgkcjcmliaanaaW.PrintWords Go.Proofs.YthgkcjcmliaanaaW.PrintMore
attribute [local go_sem] max2_mx min2_mn max_two min_two max_three min_three max_four min_four

/-! ### How large it may grow -/
structure OkN (σ : Bs) (i : Nat) : Prop where
  len : σ.L.length ≤ 256
  lost0 : 0 ≤ σ.lost
  lost1 : σ.lost ≤ i
  txt : ∀ x ∈ σ.L, x.s.size ≤ 200

theorem OkN.ok {σ : Bs} {i : Nat} (h : OkN σ i) (hi : i ≤ 300) : Ok σ :=
  ⟨h.len, h.lost0, by have := h.lost1; omega, fun x hx => by have := h.txt x hx; omega⟩

theorem OkN.more {σ : Bs} {i : Nat} (h : OkN σ i) : OkN σ (i + 1) := ⟨h.len, h.lost0, by have := h.lost1; omega, h.txt⟩

theorem OkN.send {σ : Bs} {i : Nat} (h : OkN σ i) (x : Fl) (hx : x.s.size ≤ 200) : OkN (sendM σ x).2 (i + 1) := by
  have h1 := h.lost0
  have h2 := h.lost1
  unfold sendM
  split
  · exact ⟨h.len, by simp only; omega, by simp only; omega, h.txt⟩
  · refine ⟨by simp only [List.length_append, List.length_singleton]; omega, h1, by simp only; omega, fun y hy => ?_⟩
    rcases List.mem_append.1 hy with h3 | h3
    · exact h.txt y h3
    · simp at h3
      subst h3
      exact hx

theorem OkN.step {σ : Bs} {i : Nat} (h : OkN σ i) (K k a b : Int) (x : Fl) (hx : x.s.size ≤ 200) : OkN (doM σ K k a b x) (i + 1) := by
  have h1 := h.lost0
  have h2 := h.lost1
  have h3 := h.len
  unfold doM
  split
  · exact h.send x hx
  split
  · unfold takeM
    split
    · refine ⟨?_, h1, by simp only; omega, fun y hy => ?_⟩
      · simp only [List.length_append, List.length_take, List.length_drop]
        omega
      · rcases List.mem_append.1 hy with h4 | h4
        · exact h.txt y (List.mem_of_mem_take h4)
        · exact h.txt y (List.mem_of_mem_drop h4)
    · exact h.more
  split
  · unfold twiceM
    rcases lookF_cases σ.L k with ⟨y, hk, hy, he⟩ | he
    · rw [he, if_pos rfl]
      exact h.send y (h.txt y (List.mem_of_getElem? hy))
    · rw [he, if_neg (by decide)]
      exact h.more
  split
  · unfold hurtM
    rcases lookF_cases σ.L k with ⟨y, hk, hy, he⟩ | he
    · rw [he, if_pos rfl]
      split
      · refine ⟨by simp; omega, h1, by simp only; omega, fun z hz => ?_⟩
        rcases List.mem_or_eq_of_mem_set hz with h4 | rfl
        · exact h.txt z h4
        · simp only
          rw [chg_size]
          exact h.txt y (List.mem_of_getElem? hy)
      · exact h.more
    · rw [he, if_neg (by decide)]
      exact h.more
  · exact h.more

/-- Deeds: a kind, a place, a byte's place, what it is changed by, and a flight. -/
def DeedsP (w : World) (A : Option Addr) (len : Nat) : Prop :=
  ∀ i : Nat, i < len → ∃ (ad : Addr) (K k p b : Int) (x : Fl), A = some ad ∧ w.cell? (ad.add (i * 8)) = some (.int .i64 K) ∧ w.cell? ⟨(ad.add (i * 8)).block, (ad.add (i * 8)).off + 1, none⟩ = some (.int .i64 k) ∧ w.cell? ⟨(ad.add (i * 8)).block, (ad.add (i * 8)).off + 2, none⟩ = some (.int .i64 p) ∧ w.cell? ⟨(ad.add (i * 8)).block, (ad.add (i * 8)).off + 3, none⟩ = some (.int .i64 b) ∧ w.cell? ⟨(ad.add (i * 8)).block, (ad.add (i * 8)).off + 4, none⟩ = some (.int .i64 x.f) ∧ w.cell? ⟨(ad.add (i * 8)).block, (ad.add (i * 8)).off + 5, none⟩ = some (.int .i64 x.t) ∧ w.cell? ⟨(ad.add (i * 8)).block, (ad.add (i * 8)).off + 6, none⟩ = some (.string x.s) ∧ w.cell? ⟨(ad.add (i * 8)).block, (ad.add (i * 8)).off + 7, none⟩ = some (.bool x.h)

theorem cells32' : Try.prog.cellsOf 32 = 8 := by kernel_rfl

theorem deedsP_of {w : World} {A : Option Addr} {len : Nat} (h : ∀ i, i < len → ∃ a, A = some a ∧ ∀ o k, (o, k) ∈ [(0, Args.Bs.int .i64), (1, Args.Bs.int .i64), (2, Args.Bs.int .i64), (3, Args.Bs.int .i64), (4, Args.Bs.int .i64), (5, Args.Bs.int .i64), (6, Args.Bs.string), (7, Args.Bs.bool)] → ∃ v, w.cell? (a.add (i * Try.prog.cellsOf 32 + o)) = some v ∧ k.fit v) : DeedsP w A len := by
  intro i h1
  obtain ⟨a, hA, hc⟩ := h i h1
  rw [cells32'] at hc
  obtain ⟨v0, hv0, x0, rfl, _⟩ := hc 0 (.int .i64) (by simp)
  obtain ⟨v1, hv1, x1, rfl, _⟩ := hc 1 (.int .i64) (by simp)
  obtain ⟨v2, hv2, x2, rfl, _⟩ := hc 2 (.int .i64) (by simp)
  obtain ⟨v3, hv3, x3, rfl, _⟩ := hc 3 (.int .i64) (by simp)
  obtain ⟨v4, hv4, x4, rfl, _⟩ := hc 4 (.int .i64) (by simp)
  obtain ⟨v5, hv5, x5, rfl, _⟩ := hc 5 (.int .i64) (by simp)
  obtain ⟨v6, hv6, s6, rfl, _⟩ := hc 6 .string (by simp)
  obtain ⟨v7, hv7, b7, rfl⟩ := hc 7 .bool (by simp)
  exact ⟨a, x0, x1, x2, x3, ⟨x4, x5, s6, b7⟩, hA, hv0, by rw [← add_field a (i * 8) 1 (by omega)]; exact hv1, by rw [← add_field a (i * 8) 2 (by omega)]; exact hv2, by rw [← add_field a (i * 8) 3 (by omega)]; exact hv3, by rw [← add_field a (i * 8) 4 (by omega)]; exact hv4, by rw [← add_field a (i * 8) 5 (by omega)]; exact hv5, by rw [← add_field a (i * 8) 6 (by omega)]; exact hv6, by rw [← add_field a (i * 8) 7 (by omega)]; exact hv7⟩

set_option maxHeartbeats 16000000 in
set_option maxRecDepth 100000 in
theorem plays_walk (A : Option Addr) (len cap : Nat) (w : World) (hd : DeedsP w A len) (hlen : len ≤ maxLen) :
    Calls Try.prog 4 #[.slice A len cap] w fun e w' => e = .returned (.bool true) ∧ Below w.heap.size w w' := by
  unfold maxLen at hlen
  have HD := Lib.hid hd
  clear hd
  go_enter Try.func4, Try.ntmps4
  go_wp2_with fail
  refine (new_o _).mono ?_
  rintro e w1 ⟨rfl, h1, o1⟩
  have HB2 : Hid (Bo (w1.alloc (.cells #[.slice none 0 0, .int .i64 0] 42)) w.heap.size w.heap.size ⟨[], 0⟩) := Lib.hid (h1.only0 ((Only.refl _ w1).alloc _))
  have HR2 : Hid (Ro (w1.alloc (.cells #[.slice none 0 0, .int .i64 0] 42)) w.heap.size w1.heap.size ⟨[], 0⟩) := Lib.hid ⟨o1.size, _, heap_alloc_new w1 _, Row.nil 4 30 _ _⟩
  have HO2 : Hid (Below w.heap.size w (w1.alloc (.cells #[.slice none 0 0, .int .i64 0] 42))) := Lib.hid (below_alloc (o1.below (Below.refl _ _) (Nat.le_refl _) (fun _ h => h.elim)) _)
  clear h1 o1
  go_wp2
  generalize w1.alloc (.cells #[.slice none 0 0, .int .i64 0] 42) = w2 at *
  generalize w1.heap.size = r at *
  go_loopw [5] (fun vi wr => ∃ (σ : Bs) (i : Nat), vi = .int .i64 (i : Int) ∧ i ≤ 300 ∧ Hid (Bo wr w.heap.size w.heap.size σ) ∧ Hid (Ro wr w.heap.size r σ) ∧ Hid (Below w.heap.size w wr) ∧ Hid (OkN σ i)) (fun vi _ => 300 - (intOf vi).toNat)
  case atStart => exact ⟨_, 0, rfl, by omega, HB2, HR2, HO2, Lib.hid ⟨by simp, by simp, by simp, by simp⟩⟩
  case round =>
    obtain ⟨σ, i, rfl, hi, HB, HR, HO, HOK⟩ := hrel
    have hgo : ((i : Int) < len ∧ (i : Int) < 300) ∨ ((i : Int) < len ∧ ¬ (i : Int) < 300) ∨ ¬ (i : Int) < len := by omega
    rcases hgo with ⟨hlt, h300⟩ | ⟨hlt, h300⟩ | hlt
    · obtain ⟨ad, K, k, p, b, x, hAd, c0, c1, c2, c3, c4, c5, c6, c7⟩ := HD.out i (by omega)
      cases hAd
      have HCW : Hid (∀ w', Below w.heap.size w w' → w'.cell? (ad.add (i * 8)) = some (.int .i64 K) ∧ w'.cell? ⟨(ad.add (i * 8)).block, (ad.add (i * 8)).off + 1, none⟩ = some (.int .i64 k) ∧ w'.cell? ⟨(ad.add (i * 8)).block, (ad.add (i * 8)).off + 2, none⟩ = some (.int .i64 p) ∧ w'.cell? ⟨(ad.add (i * 8)).block, (ad.add (i * 8)).off + 3, none⟩ = some (.int .i64 b) ∧ w'.cell? ⟨(ad.add (i * 8)).block, (ad.add (i * 8)).off + 4, none⟩ = some (.int .i64 x.f) ∧ w'.cell? ⟨(ad.add (i * 8)).block, (ad.add (i * 8)).off + 5, none⟩ = some (.int .i64 x.t) ∧ w'.cell? ⟨(ad.add (i * 8)).block, (ad.add (i * 8)).off + 6, none⟩ = some (.string x.s) ∧ w'.cell? ⟨(ad.add (i * 8)).block, (ad.add (i * 8)).off + 7, none⟩ = some (.bool x.h)) := Lib.hid (fun w' hb => ⟨(hb.cell (World.block_lt_of_cell? w _ c0)).trans c0, (hb.cell (World.block_lt_of_cell? w _ c1)).trans c1, (hb.cell (World.block_lt_of_cell? w _ c2)).trans c2, (hb.cell (World.block_lt_of_cell? w _ c3)).trans c3, (hb.cell (World.block_lt_of_cell? w _ c4)).trans c4, (hb.cell (World.block_lt_of_cell? w _ c5)).trans c5, (hb.cell (World.block_lt_of_cell? w _ c6)).trans c6, (hb.cell (World.block_lt_of_cell? w _ c7)).trans c7⟩)
      have HCr := Lib.hid (HCW.out wr HO.out)
      obtain ⟨hc0, hc1, hc2, hc3, hc4, hc5, hc6, hc7⟩ := HCr.out
      clear c0 c1 c2 c3 c4 c5 c6 c7
      by_cases hsz : x.s.size ≤ 200
      · have hsz' : ¬ (200 : Int) < x.s.size := by omega
        have HOK2 := Lib.hid (HOK.out.step K k p b x hsz)
        have HOk := Lib.hid (HOK.out.ok hi)
        have hdo := fun w' (h1 : Bo w' w.heap.size w.heap.size σ) (h2 : Ro w' w.heap.size r σ) => does_p h1 h2 HOk.out K k p b x
        generalize doM σ K k p b x = σ2 at *
        obtain ⟨d, hd⟩ : ∃ d, d = σ2.L.length := ⟨_, rfl⟩
        obtain ⟨lo, hlo⟩ : ∃ lo, lo = σ2.lost := ⟨_, rfl⟩
        have HDO : Hid (∀ w', Bo w' w.heap.size w.heap.size σ → Ro w' w.heap.size r σ → Calls Try.prog 14 #[.pointer (some ⟨w.heap.size, 0, none⟩), .pointer (some ⟨r, 0, none⟩), .agg #[.int .i64 K, .int .i64 k, .int .i64 p, .int .i64 b, .int .i64 x.f, .int .i64 x.t, .string x.s, .bool x.h]] w' fun e w'' => e = .returned (.bool true) ∧ Bo w'' w.heap.size w.heap.size σ2 ∧ Ro w'' w.heap.size r σ2 ∧ (∃ A c, w''.cell? ⟨r, 0, none⟩ = some (.slice A d c)) ∧ w''.cell? ⟨r, 1, none⟩ = some (.int .i64 lo) ∧ Only (fun k => w.heap.size ≤ k) w' w'') := Lib.hid (fun w' h1 h2 => (hdo w' h1 h2).mono fun e w'' ⟨he, hb, hr, ho⟩ => by
          refine ⟨he, hb, hr, ?_, ?_, ho⟩
          · obtain ⟨_, v, hg, hl⟩ := hr
            obtain ⟨A1, c1, rfl, _⟩ := hl.form
            exact ⟨A1, c1, by rw [hd]; exact cell_at hg 0 rfl⟩
          · obtain ⟨_, v, hg, hl⟩ := hr
            rw [hlo]
            exact cell_at hg 1 rfl)
        have HLN : Hid (∀ w', Bo w' w.heap.size w.heap.size σ2 → Calls Try.prog 12 #[.pointer (some ⟨w.heap.size, 0, none⟩)] w' fun e w'' => e = .returned (.int .i64 (d : Int)) ∧ w' = w'') := Lib.hid (fun w' h => by rw [hd]; exact len_o h)
        have HLO : Hid (∀ w', Bo w' w.heap.size w.heap.size σ2 → Calls Try.prog 15 #[.pointer (some ⟨w.heap.size, 0, none⟩)] w' fun e w'' => e = .returned (.int .i64 lo) ∧ w' = w'') := Lib.hid (fun w' h => by rw [hlo]; exact lost_o h)
        clear hd hlo hdo hsz
        go_wp2
        clear hc0 hc1 hc2 hc3 hc4 hc5 hc6 hc7
        refine wp_region_noPanic ?_
        refine wp_region_held_drew (S := (fun w' : World => w'.cell? (ad.add (i * 8)) = some (.int .i64 K) ∧ w'.cell? ⟨(ad.add (i * 8)).block, (ad.add (i * 8)).off + 1, none⟩ = some (.int .i64 k) ∧ w'.cell? ⟨(ad.add (i * 8)).block, (ad.add (i * 8)).off + 2, none⟩ = some (.int .i64 p) ∧ w'.cell? ⟨(ad.add (i * 8)).block, (ad.add (i * 8)).off + 3, none⟩ = some (.int .i64 b) ∧ w'.cell? ⟨(ad.add (i * 8)).block, (ad.add (i * 8)).off + 4, none⟩ = some (.int .i64 x.f) ∧ w'.cell? ⟨(ad.add (i * 8)).block, (ad.add (i * 8)).off + 5, none⟩ = some (.int .i64 x.t) ∧ w'.cell? ⟨(ad.add (i * 8)).block, (ad.add (i * 8)).off + 6, none⟩ = some (.string x.s) ∧ w'.cell? ⟨(ad.add (i * 8)).block, (ad.add (i * 8)).off + 7, none⟩ = some (.bool x.h))) (by kernel_rfl) ?_ (fun hHeld => ?_)
        · exact HCr.out
        refine wpAnyH_take (i := 0) (v := ?v1) rfl (by kernel_rfl) (by kernel_rfl) (by kernel_rfl) (fun _ _ _ h => h) (Or.inl ⟨by rfl, ?hy1⟩) (by assumption) ?rest1
        case hy1 => (intro w hSw; (try dsimp only at hSw); go_simp; try with_reducible rfl)
        try simp only [Act.put, List.setIfInBounds_toArray, List.set_cons_zero, List.set_cons_succ]
        refine wpAnyH_take (i := 1) (v := ?v2) rfl (by kernel_rfl) (by kernel_rfl) (by kernel_rfl) (fun _ _ _ h => h) (Or.inl ⟨by rfl, ?hy2⟩) (by assumption) ?rest2
        case hy2 => (intro w hSw; (try dsimp only at hSw); go_simp; try with_reducible rfl)
        try simp only [Act.put, List.setIfInBounds_toArray, List.set_cons_zero, List.set_cons_succ]
        refine wpAnyH_take (i := 2) (v := ?v3) rfl (by kernel_rfl) (by kernel_rfl) (by kernel_rfl) (fun _ _ _ h => h) (Or.inl ⟨by rfl, ?hy3⟩) (by assumption) ?rest3
        case hy3 => (intro w hSw; (try dsimp only at hSw); go_simp; try with_reducible rfl)
        try simp only [Act.put, List.setIfInBounds_toArray, List.set_cons_zero, List.set_cons_succ]
        refine wpAnyH_take (i := 3) (v := ?v4) rfl (by kernel_rfl) (by kernel_rfl) (by kernel_rfl) (fun _ _ _ h => h) (Or.inl ⟨by rfl, ?hy4⟩) (by assumption) ?rest4
        case hy4 => (intro w hSw; (try dsimp only at hSw); go_simp; try with_reducible rfl)
        try simp only [Act.put, List.setIfInBounds_toArray, List.set_cons_zero, List.set_cons_succ]
        refine wpAnyH_take (i := 4) (v := ?v5) rfl (by kernel_rfl) (by kernel_rfl) (by kernel_rfl) (fun _ _ _ h => h) (Or.inl ⟨by rfl, ?hy5⟩) (by assumption) ?rest5
        case hy5 => (intro w hSw; (try dsimp only at hSw); go_simp; try with_reducible rfl)
        try simp only [Act.put, List.setIfInBounds_toArray, List.set_cons_zero, List.set_cons_succ]
        refine wpAnyH_take (i := 5) (v := ?v6) rfl (by kernel_rfl) (by kernel_rfl) (by kernel_rfl) (fun _ _ _ h => h) (Or.inl ⟨by rfl, ?hy6⟩) (by assumption) ?rest6
        case hy6 => (intro w hSw; (try dsimp only at hSw); go_simp; try with_reducible rfl)
        try simp only [Act.put, List.setIfInBounds_toArray, List.set_cons_zero, List.set_cons_succ]
        refine wpAnyH_ready (rs := [6]) (by kernel_rfl) (by simp) ?_
        refine AllReadyH.cons (o := _) rfl (fun K hK => ?_) ?_
        · go_simp
          (refine (HDO.out _ (by exact HB.out) (by exact HR.out)).mono ?_; rintro e w5 ⟨rfl, h5, h5r, ⟨A5, c5, hx5⟩, hy5, o5⟩; have H5 := Lib.hid h5; have H5R := Lib.hid h5r; have B5 := Lib.hid (o5.below (u := w) (B := w.heap.size) (below_drew HO.out) HO.out.size (fun _ h => h)); have HC5 := Lib.hid (HCW.out w5 B5.out); clear h5 h5r o5)
          refine hK.out _ _ ?_ (fun hHeld => ?_)
          · exact HC5.out
          · clear hK K
            try simp only [Act.put, List.setIfInBounds_toArray, List.set_cons_zero, List.set_cons_succ]
            refine wpAnyH_take (i := 7) (v := ?v7) rfl (by kernel_rfl) (by kernel_rfl) (by kernel_rfl) (fun _ _ _ h => h) (Or.inl ⟨by rfl, ?hy7⟩) (by assumption) ?rest7
            case hy7 => (intro w hSw; (try dsimp only at hSw); go_simp; try with_reducible rfl)
            try simp only [Act.put, List.setIfInBounds_toArray, List.set_cons_zero, List.set_cons_succ]
            refine wpAnyH_take (i := 8) (v := ?v8) rfl (by kernel_rfl) (by kernel_rfl) (by kernel_rfl) (fun _ _ _ h => h) (Or.inl ⟨by rfl, ?hy8⟩) (by assumption) ?rest8
            case hy8 => (intro w hSw; (try dsimp only at hSw); go_simp; try with_reducible rfl)
            try simp only [Act.put, List.setIfInBounds_toArray, List.set_cons_zero, List.set_cons_succ]
            refine wpAnyH_take (i := 9) (v := ?v9) rfl (by kernel_rfl) (by kernel_rfl) (by kernel_rfl) (fun _ _ _ h => h) (Or.inl ⟨by rfl, ?hy9⟩) (by assumption) ?rest9
            case hy9 => (intro w hSw; (try dsimp only at hSw); go_simp; try with_reducible rfl)
            try simp only [Act.put, List.setIfInBounds_toArray, List.set_cons_zero, List.set_cons_succ]
            refine wpAnyH_take (i := 11) (v := ?v10) rfl (by kernel_rfl) (by kernel_rfl) (by kernel_rfl) (fun _ _ _ h => h) (Or.inl ⟨by rfl, ?hy10⟩) (by assumption) ?rest10
            case hy10 => (intro w hSw; (try dsimp only at hSw); go_simp; try with_reducible rfl)
            try simp only [Act.put, List.setIfInBounds_toArray, List.set_cons_zero, List.set_cons_succ]
            refine wpAnyH_take (i := 12) (v := ?v11) rfl (by kernel_rfl) (by kernel_rfl) (by kernel_rfl) (fun _ _ _ h => h) (Or.inl ⟨by rfl, ?hy11⟩) (by assumption) ?rest11
            case hy11 => (intro w hSw; (try dsimp only at hSw); go_simp; try with_reducible rfl)
            try simp only [Act.put, List.setIfInBounds_toArray, List.set_cons_zero, List.set_cons_succ]
            refine wpAnyH_take (i := 13) (v := ?v12) rfl (by kernel_rfl) (by kernel_rfl) (by kernel_rfl) (fun _ _ _ h => h) (Or.inl ⟨by rfl, ?hy12⟩) (by assumption) ?rest12
            case hy12 => (intro w hSw; (try dsimp only at hSw); go_simp; try with_reducible rfl)
            try simp only [Act.put, List.setIfInBounds_toArray, List.set_cons_zero, List.set_cons_succ]
            refine wpAnyH_ready (rs := [10, 14]) (by kernel_rfl) (by simp) ?_
            refine AllReadyH.cons (o := _) rfl (fun K hK => ?_) ?_
            · go_simp
              (refine (HLN.out _ H5.out).mono ?_; rintro e w' ⟨rfl, rfl⟩)
              refine hK.out _ _ ?_ (fun hHeld => ?_)
              · exact HC5.out
              · clear hK K
                try simp only [Act.put, List.setIfInBounds_toArray, List.set_cons_zero, List.set_cons_succ]
                refine wpAnyH_ready (rs := [14]) (by kernel_rfl) (by simp) ?_
                refine AllReadyH.cons (o := _) rfl (fun K hK => ?_) ?_
                · go_simp
                  refine hK.out _ _ ?_ (fun hHeld => ?_)
                  · exact HC5.out
                  · clear hK K
                    try simp only [Act.put, List.setIfInBounds_toArray, List.set_cons_zero, List.set_cons_succ]
                    refine wpAnyH_take (i := 15) (v := ?v13) rfl (by kernel_rfl) (by kernel_rfl) (by kernel_rfl) (fun _ _ _ h => h) (Or.inl ⟨by rfl, ?hy13⟩) (by assumption) ?rest13
                    case hy13 => (intro w hSw; (try dsimp only at hSw); go_simp; try with_reducible rfl)
                    try simp only [Act.put, List.setIfInBounds_toArray, List.set_cons_zero, List.set_cons_succ]
                    refine wpAnyH_take (i := 16) (v := ?v14) rfl (by kernel_rfl) (by kernel_rfl) (by kernel_rfl) (fun _ _ _ h => h) (Or.inl ⟨by rfl, ?hy14⟩) (by assumption) ?rest14
                    case hy14 => (intro w hSw; (try dsimp only at hSw); go_simp; try with_reducible rfl)
                    try simp only [Act.put, List.setIfInBounds_toArray, List.set_cons_zero, List.set_cons_succ]
                    refine wpAnyH_take (i := 17) (v := ?v15) rfl (by kernel_rfl) (by kernel_rfl) (by kernel_rfl) (fun _ _ _ h => h) (Or.inl ⟨by rfl, ?hy15⟩) (by assumption) ?rest15
                    case hy15 => (intro w hSw; (try dsimp only at hSw); go_simp; try with_reducible rfl)
                    try simp only [Act.put, List.setIfInBounds_toArray, List.set_cons_zero, List.set_cons_succ]
                    refine wpAnyH_take (i := 18) (v := ?v16) rfl (by kernel_rfl) (by kernel_rfl) (by kernel_rfl) (fun _ _ _ h => h) (Or.inl ⟨by rfl, ?hy16⟩) (by assumption) ?rest16
                    case hy16 => (intro w hSw; (try dsimp only at hSw); go_simp; try with_reducible rfl)
                    try simp only [Act.put, List.setIfInBounds_toArray, List.set_cons_zero, List.set_cons_succ]
                    refine wpAnyH_take (i := 19) (v := ?v17) rfl (by kernel_rfl) (by kernel_rfl) (by kernel_rfl) (fun _ _ _ h => h) (Or.inl ⟨by rfl, ?hy17⟩) (by assumption) ?rest17
                    case hy17 => (intro w hSw; (try dsimp only at hSw); go_simp; try with_reducible rfl)
                    try simp only [Act.put, List.setIfInBounds_toArray, List.set_cons_zero, List.set_cons_succ]
                    refine wpAnyH_take (i := 21) (v := ?v18) rfl (by kernel_rfl) (by kernel_rfl) (by kernel_rfl) (fun _ _ _ h => h) (Or.inl ⟨by rfl, ?hy18⟩) (by assumption) ?rest18
                    case hy18 => (intro w hSw; (try dsimp only at hSw); go_simp; try with_reducible rfl)
                    try simp only [Act.put, List.setIfInBounds_toArray, List.set_cons_zero, List.set_cons_succ]
                    refine wpAnyH_take (i := 22) (v := ?v19) rfl (by kernel_rfl) (by kernel_rfl) (by kernel_rfl) (fun _ _ _ h => h) (Or.inl ⟨by rfl, ?hy19⟩) (by assumption) ?rest19
                    case hy19 => (intro w hSw; (try dsimp only at hSw); go_simp; try with_reducible rfl)
                    try simp only [Act.put, List.setIfInBounds_toArray, List.set_cons_zero, List.set_cons_succ]
                    refine wpAnyH_take (i := 23) (v := ?v20) rfl (by kernel_rfl) (by kernel_rfl) (by kernel_rfl) (fun _ _ _ h => h) (Or.inl ⟨by rfl, ?hy20⟩) (by assumption) ?rest20
                    case hy20 => (intro w hSw; (try dsimp only at hSw); go_simp; try with_reducible rfl)
                    try simp only [Act.put, List.setIfInBounds_toArray, List.set_cons_zero, List.set_cons_succ]
                    refine wpAnyH_ready (rs := [20, 24]) (by kernel_rfl) (by simp) ?_
                    refine AllReadyH.cons (o := _) rfl (fun K hK => ?_) ?_
                    · go_simp
                      (refine (HLO.out _ H5.out).mono ?_; rintro e w' ⟨rfl, rfl⟩)
                      refine hK.out _ _ ?_ (fun hHeld => ?_)
                      · exact HC5.out
                      · clear hK K
                        try simp only [Act.put, List.setIfInBounds_toArray, List.set_cons_zero, List.set_cons_succ]
                        refine wpAnyH_ready (rs := [24]) (by kernel_rfl) (by simp) ?_
                        refine AllReadyH.cons (o := _) rfl (fun K hK => ?_) ?_
                        · go_simp
                          refine hK.out _ _ ?_ (fun hHeld => ?_)
                          · exact HC5.out
                          · clear hK K
                            try simp only [Act.put, List.setIfInBounds_toArray, List.set_cons_zero, List.set_cons_succ]
                            refine wpAnyH_take (i := 25) (v := ?v21) rfl (by kernel_rfl) (by kernel_rfl) (by kernel_rfl) (fun _ _ _ h => h) (Or.inl ⟨by rfl, ?hy21⟩) (by assumption) ?rest21
                            case hy21 => (intro w hSw; (try dsimp only at hSw); go_simp; try with_reducible rfl)
                            try simp only [Act.put, List.setIfInBounds_toArray, List.set_cons_zero, List.set_cons_succ]
                            refine wpAnyH_take (i := 26) (v := ?v22) rfl (by kernel_rfl) (by kernel_rfl) (by kernel_rfl) (fun _ _ _ h => h) (Or.inl ⟨by rfl, ?hy22⟩) (by assumption) ?rest22
                            case hy22 => (intro w hSw; (try dsimp only at hSw); go_simp; try with_reducible rfl)
                            try simp only [Act.put, List.setIfInBounds_toArray, List.set_cons_zero, List.set_cons_succ]
                            refine wpAnyH_done (by kernel_rfl) ?_ _
                            refine NoPanic.normal ?_
                            go_wp2
                            go_roundw
                            case rel => exact ⟨_, i + 1, by go_num, by omega, H5, H5R, B5, HOK2⟩
                            case measure => simp [intOf]; omega
                        · exact AllReadyH.nil
                    · refine AllReadyH.cons (o := _) rfl (fun K hK => ?_) ?_
                      · go_simp
                        refine hK.out _ _ ?_ (fun hHeld => ?_)
                        · exact HC5.out
                        · clear hK K
                          try simp only [Act.put, List.setIfInBounds_toArray, List.set_cons_zero, List.set_cons_succ]
                          refine wpAnyH_ready (rs := [20]) (by kernel_rfl) (by simp) ?_
                          refine AllReadyH.cons (o := _) rfl (fun K hK => ?_) ?_
                          · go_simp
                            (refine (HLO.out _ H5.out).mono ?_; rintro e w' ⟨rfl, rfl⟩)
                            refine hK.out _ _ ?_ (fun hHeld => ?_)
                            · exact HC5.out
                            · clear hK K
                              try simp only [Act.put, List.setIfInBounds_toArray, List.set_cons_zero, List.set_cons_succ]
                              refine wpAnyH_take (i := 25) (v := ?v23) rfl (by kernel_rfl) (by kernel_rfl) (by kernel_rfl) (fun _ _ _ h => h) (Or.inl ⟨by rfl, ?hy23⟩) (by assumption) ?rest23
                              case hy23 => (intro w hSw; (try dsimp only at hSw); go_simp; try with_reducible rfl)
                              try simp only [Act.put, List.setIfInBounds_toArray, List.set_cons_zero, List.set_cons_succ]
                              refine wpAnyH_take (i := 26) (v := ?v24) rfl (by kernel_rfl) (by kernel_rfl) (by kernel_rfl) (fun _ _ _ h => h) (Or.inl ⟨by rfl, ?hy24⟩) (by assumption) ?rest24
                              case hy24 => (intro w hSw; (try dsimp only at hSw); go_simp; try with_reducible rfl)
                              try simp only [Act.put, List.setIfInBounds_toArray, List.set_cons_zero, List.set_cons_succ]
                              refine wpAnyH_done (by kernel_rfl) ?_ _
                              refine NoPanic.normal ?_
                              go_wp2
                              go_roundw
                              case rel => exact ⟨_, i + 1, by go_num, by omega, H5, H5R, B5, HOK2⟩
                              case measure => simp [intOf]; omega
                          · exact AllReadyH.nil
                      · exact AllReadyH.nil
                · exact AllReadyH.nil
            · refine AllReadyH.cons (o := _) rfl (fun K hK => ?_) ?_
              · go_simp
                refine hK.out _ _ ?_ (fun hHeld => ?_)
                · exact HC5.out
                · clear hK K
                  try simp only [Act.put, List.setIfInBounds_toArray, List.set_cons_zero, List.set_cons_succ]
                  refine wpAnyH_take (i := 15) (v := ?v25) rfl (by kernel_rfl) (by kernel_rfl) (by kernel_rfl) (fun _ _ _ h => h) (Or.inl ⟨by rfl, ?hy25⟩) (by assumption) ?rest25
                  case hy25 => (intro w hSw; (try dsimp only at hSw); go_simp; try with_reducible rfl)
                  try simp only [Act.put, List.setIfInBounds_toArray, List.set_cons_zero, List.set_cons_succ]
                  refine wpAnyH_ready (rs := [10]) (by kernel_rfl) (by simp) ?_
                  refine AllReadyH.cons (o := _) rfl (fun K hK => ?_) ?_
                  · go_simp
                    (refine (HLN.out _ H5.out).mono ?_; rintro e w' ⟨rfl, rfl⟩)
                    refine hK.out _ _ ?_ (fun hHeld => ?_)
                    · exact HC5.out
                    · clear hK K
                      try simp only [Act.put, List.setIfInBounds_toArray, List.set_cons_zero, List.set_cons_succ]
                      refine wpAnyH_take (i := 16) (v := ?v26) rfl (by kernel_rfl) (by kernel_rfl) (by kernel_rfl) (fun _ _ _ h => h) (Or.inl ⟨by rfl, ?hy26⟩) (by assumption) ?rest26
                      case hy26 => (intro w hSw; (try dsimp only at hSw); go_simp; try with_reducible rfl)
                      try simp only [Act.put, List.setIfInBounds_toArray, List.set_cons_zero, List.set_cons_succ]
                      refine wpAnyH_take (i := 17) (v := ?v27) rfl (by kernel_rfl) (by kernel_rfl) (by kernel_rfl) (fun _ _ _ h => h) (Or.inl ⟨by rfl, ?hy27⟩) (by assumption) ?rest27
                      case hy27 => (intro w hSw; (try dsimp only at hSw); go_simp; try with_reducible rfl)
                      try simp only [Act.put, List.setIfInBounds_toArray, List.set_cons_zero, List.set_cons_succ]
                      refine wpAnyH_take (i := 18) (v := ?v28) rfl (by kernel_rfl) (by kernel_rfl) (by kernel_rfl) (fun _ _ _ h => h) (Or.inl ⟨by rfl, ?hy28⟩) (by assumption) ?rest28
                      case hy28 => (intro w hSw; (try dsimp only at hSw); go_simp; try with_reducible rfl)
                      try simp only [Act.put, List.setIfInBounds_toArray, List.set_cons_zero, List.set_cons_succ]
                      refine wpAnyH_take (i := 19) (v := ?v29) rfl (by kernel_rfl) (by kernel_rfl) (by kernel_rfl) (fun _ _ _ h => h) (Or.inl ⟨by rfl, ?hy29⟩) (by assumption) ?rest29
                      case hy29 => (intro w hSw; (try dsimp only at hSw); go_simp; try with_reducible rfl)
                      try simp only [Act.put, List.setIfInBounds_toArray, List.set_cons_zero, List.set_cons_succ]
                      refine wpAnyH_take (i := 21) (v := ?v30) rfl (by kernel_rfl) (by kernel_rfl) (by kernel_rfl) (fun _ _ _ h => h) (Or.inl ⟨by rfl, ?hy30⟩) (by assumption) ?rest30
                      case hy30 => (intro w hSw; (try dsimp only at hSw); go_simp; try with_reducible rfl)
                      try simp only [Act.put, List.setIfInBounds_toArray, List.set_cons_zero, List.set_cons_succ]
                      refine wpAnyH_take (i := 22) (v := ?v31) rfl (by kernel_rfl) (by kernel_rfl) (by kernel_rfl) (fun _ _ _ h => h) (Or.inl ⟨by rfl, ?hy31⟩) (by assumption) ?rest31
                      case hy31 => (intro w hSw; (try dsimp only at hSw); go_simp; try with_reducible rfl)
                      try simp only [Act.put, List.setIfInBounds_toArray, List.set_cons_zero, List.set_cons_succ]
                      refine wpAnyH_take (i := 23) (v := ?v32) rfl (by kernel_rfl) (by kernel_rfl) (by kernel_rfl) (fun _ _ _ h => h) (Or.inl ⟨by rfl, ?hy32⟩) (by assumption) ?rest32
                      case hy32 => (intro w hSw; (try dsimp only at hSw); go_simp; try with_reducible rfl)
                      try simp only [Act.put, List.setIfInBounds_toArray, List.set_cons_zero, List.set_cons_succ]
                      refine wpAnyH_ready (rs := [20, 24]) (by kernel_rfl) (by simp) ?_
                      refine AllReadyH.cons (o := _) rfl (fun K hK => ?_) ?_
                      · go_simp
                        (refine (HLO.out _ H5.out).mono ?_; rintro e w' ⟨rfl, rfl⟩)
                        refine hK.out _ _ ?_ (fun hHeld => ?_)
                        · exact HC5.out
                        · clear hK K
                          try simp only [Act.put, List.setIfInBounds_toArray, List.set_cons_zero, List.set_cons_succ]
                          refine wpAnyH_ready (rs := [24]) (by kernel_rfl) (by simp) ?_
                          refine AllReadyH.cons (o := _) rfl (fun K hK => ?_) ?_
                          · go_simp
                            refine hK.out _ _ ?_ (fun hHeld => ?_)
                            · exact HC5.out
                            · clear hK K
                              try simp only [Act.put, List.setIfInBounds_toArray, List.set_cons_zero, List.set_cons_succ]
                              refine wpAnyH_take (i := 25) (v := ?v33) rfl (by kernel_rfl) (by kernel_rfl) (by kernel_rfl) (fun _ _ _ h => h) (Or.inl ⟨by rfl, ?hy33⟩) (by assumption) ?rest33
                              case hy33 => (intro w hSw; (try dsimp only at hSw); go_simp; try with_reducible rfl)
                              try simp only [Act.put, List.setIfInBounds_toArray, List.set_cons_zero, List.set_cons_succ]
                              refine wpAnyH_take (i := 26) (v := ?v34) rfl (by kernel_rfl) (by kernel_rfl) (by kernel_rfl) (fun _ _ _ h => h) (Or.inl ⟨by rfl, ?hy34⟩) (by assumption) ?rest34
                              case hy34 => (intro w hSw; (try dsimp only at hSw); go_simp; try with_reducible rfl)
                              try simp only [Act.put, List.setIfInBounds_toArray, List.set_cons_zero, List.set_cons_succ]
                              refine wpAnyH_done (by kernel_rfl) ?_ _
                              refine NoPanic.normal ?_
                              go_wp2
                              go_roundw
                              case rel => exact ⟨_, i + 1, by go_num, by omega, H5, H5R, B5, HOK2⟩
                              case measure => simp [intOf]; omega
                          · exact AllReadyH.nil
                      · refine AllReadyH.cons (o := _) rfl (fun K hK => ?_) ?_
                        · go_simp
                          refine hK.out _ _ ?_ (fun hHeld => ?_)
                          · exact HC5.out
                          · clear hK K
                            try simp only [Act.put, List.setIfInBounds_toArray, List.set_cons_zero, List.set_cons_succ]
                            refine wpAnyH_ready (rs := [20]) (by kernel_rfl) (by simp) ?_
                            refine AllReadyH.cons (o := _) rfl (fun K hK => ?_) ?_
                            · go_simp
                              (refine (HLO.out _ H5.out).mono ?_; rintro e w' ⟨rfl, rfl⟩)
                              refine hK.out _ _ ?_ (fun hHeld => ?_)
                              · exact HC5.out
                              · clear hK K
                                try simp only [Act.put, List.setIfInBounds_toArray, List.set_cons_zero, List.set_cons_succ]
                                refine wpAnyH_take (i := 25) (v := ?v35) rfl (by kernel_rfl) (by kernel_rfl) (by kernel_rfl) (fun _ _ _ h => h) (Or.inl ⟨by rfl, ?hy35⟩) (by assumption) ?rest35
                                case hy35 => (intro w hSw; (try dsimp only at hSw); go_simp; try with_reducible rfl)
                                try simp only [Act.put, List.setIfInBounds_toArray, List.set_cons_zero, List.set_cons_succ]
                                refine wpAnyH_take (i := 26) (v := ?v36) rfl (by kernel_rfl) (by kernel_rfl) (by kernel_rfl) (fun _ _ _ h => h) (Or.inl ⟨by rfl, ?hy36⟩) (by assumption) ?rest36
                                case hy36 => (intro w hSw; (try dsimp only at hSw); go_simp; try with_reducible rfl)
                                try simp only [Act.put, List.setIfInBounds_toArray, List.set_cons_zero, List.set_cons_succ]
                                refine wpAnyH_done (by kernel_rfl) ?_ _
                                refine NoPanic.normal ?_
                                go_wp2
                                go_roundw
                                case rel => exact ⟨_, i + 1, by go_num, by omega, H5, H5R, B5, HOK2⟩
                                case measure => simp [intOf]; omega
                            · exact AllReadyH.nil
                        · exact AllReadyH.nil
                  · exact AllReadyH.nil
              · exact AllReadyH.nil
        · exact AllReadyH.nil
      · have hsz' : (200 : Int) < x.s.size := by omega
        go_wp2_with (go_at_call 6; refine (awake_p _).mono ?_; rintro e w12 ⟨rfl, ho⟩; have HA := Lib.hid ho; clear ho)
        go_ret
        exact ⟨rfl, HA.out.below HO.out HO.out.size (fun _ h => h.elim)⟩
    all_goals
      obtain ⟨n, hn⟩ : ∃ n, n = σ.L.length := ⟨_, rfl⟩
      have HN := Lib.hid hn
      have hn1 : n ≤ 256 := by have := HOK.out.len; omega
      clear HD HOK hn
      go_wp2
      go_loopw [6] (fun vi wr => ∃ j : Nat, vi = .int .i64 (j : Int) ∧ j ≤ n ∧ Hid (Bo wr w.heap.size w.heap.size σ) ∧ Hid (Ro wr w.heap.size r σ) ∧ Hid (Below w.heap.size w wr)) (fun vi _ => n - (intOf vi).toNat)
      case atStart => exact ⟨0, rfl, by omega, HB, HR, HO⟩
      case round =>
        obtain ⟨j, rfl, hj, HB, HR, HO⟩ := hrel
        obtain ⟨A1, c1, hx0, HRL⟩ : ∃ A1 c1, wr.cell? ⟨r, 0, none⟩ = some (.slice A1 n c1) ∧ Hid (Row 4 30 wr (fun k => w.heap.size ≤ k) (.slice A1 n c1) n (σ.L.flatMap encF)) := by
          obtain ⟨_, v, hg, hl⟩ := HR.out
          obtain ⟨A1, c1, rfl, _⟩ := hl.form
          refine ⟨A1, c1, by rw [HN.out]; exact cell_at hg 0 rfl, ?_⟩
          rw [HN.out]
          exact Lib.hid hl
        have hgo : j < n ∨ j = n := by omega
        rcases hgo with hjn | rfl
        · have hjn' : (j : Int) < n := by omega
          obtain ⟨x, hx⟩ : ∃ x, σ.L[j]? = some x := ⟨σ.L[j]'(by have := HN.out; omega), List.getElem?_eq_getElem _⟩
          have hlk : lookF σ.L (j : Int) = (x, 0) := by unfold lookF; rw [if_neg (by omega), Int.toNat_natCast, hx]
          have HLK := Lib.hid (look_q HB.out (j : Int) hlk)
          obtain ⟨q, o, c', hv, _⟩ := HRL.out.some_ (by omega)
          injection hv with e1 e2 e3
          subst e1 e3
          clear e2
          have HX := Lib.hid hx
          clear hlk hx
          go_wp2_with fail
          refine HLK.out.mono ?_
          rintro e w4 ⟨rfl, o4⟩
          have HB5 : Hid (Bo (w4.alloc (.cells #[.int .i64 x.f, .int .i64 x.t, .string x.s, .bool x.h] 29)) w.heap.size w.heap.size σ) := Lib.hid (HB.out.only0 (o4.alloc _))
          have HR5 : Hid (Ro (w4.alloc (.cells #[.int .i64 x.f, .int .i64 x.t, .string x.s, .bool x.h] 29)) w.heap.size r σ) := Lib.hid (HR.out.only0 (o4.alloc _))
          have HL5 : Hid (Row 4 30 (w4.alloc (.cells #[.int .i64 x.f, .int .i64 x.t, .string x.s, .bool x.h] 29)) (fun k => w.heap.size ≤ k) (.slice (some ⟨q, o, none⟩) n c1) n (σ.L.flatMap encF)) := Lib.hid (Row.only HRL.out (o4.alloc _) (fun _ _ h => h))
          have HO5 : Hid (Below w.heap.size w (w4.alloc (.cells #[.int .i64 x.f, .int .i64 x.t, .string x.s, .bool x.h] 29))) := Lib.hid (below_alloc (o4.below HO.out HO.out.size (fun _ h => h.elim)) _)
          have HK5 := Lib.hid (heap_alloc_new w4 (.cells #[.int .i64 x.f, .int .i64 x.t, .string x.s, .bool x.h] 29))
          have hx5 : (w4.alloc (.cells #[.int .i64 x.f, .int .i64 x.t, .string x.s, .bool x.h] 29)).cell? ⟨r, 0, none⟩ = some (.slice (some ⟨q, o, none⟩) n c1) := (o4.alloc (.cells #[.int .i64 x.f, .int .i64 x.t, .string x.s, .bool x.h] 29)).cell hx0 (fun h => h)
          clear o4 hx0
          go_wp2
          generalize w4.alloc (.cells #[.int .i64 x.f, .int .i64 x.t, .string x.s, .bool x.h] 29) = w5 at *
          generalize w4.heap.size = z at *
          have HFA : Hid (∀ w', Only (fun _ => False) w5 w' → (w'.cell? ⟨z, 0, none⟩ = some (.int .i64 x.f) ∧ w'.cell? ⟨z, 1, none⟩ = some (.int .i64 x.t) ∧ w'.cell? ⟨z, 2, none⟩ = some (.string x.s) ∧ w'.cell? ⟨z, 3, none⟩ = some (.bool x.h)) ∧ w'.cell? ⟨r, 0, none⟩ = some (.slice (some ⟨q, o, none⟩) n c1) ∧ w'.cell? ⟨q, o + j * 4, none⟩ = some (.int .i64 x.f) ∧ w'.cell? ⟨q, o + j * 4 + 1, none⟩ = some (.int .i64 x.t) ∧ w'.cell? ⟨q, o + j * 4 + 2, none⟩ = some (.string x.s) ∧ w'.cell? ⟨q, o + j * 4 + 3, none⟩ = some (.bool x.h)) := Lib.hid (fun w' ho => by
            have hk := ho.blk HK5.out (fun h => h)
            have hl := Row.only HL5.out ho (fun _ _ h => h)
            exact ⟨⟨cell_at hk 0 rfl, cell_at hk 1 rfl, cell_at hk 2 rfl, cell_at hk 3 rfl⟩, ho.cell hx5 (fun h => h), hl.cell (j * 4) (encF_at σ.L j 0 _ HX.out (by omega)), hl.cell (j * 4 + 1) (encF_at σ.L j 1 _ HX.out (by omega)), hl.cell (j * 4 + 2) (encF_at σ.L j 2 _ HX.out (by omega)), hl.cell (j * 4 + 3) (encF_at σ.L j 3 _ HX.out (by omega))⟩)
          have HF5 := Lib.hid (HFA.out w5 (Only.refl _ _))
          clear hx5
          go_region_held3 (fun w' => (w'.cell? ⟨z, 0, none⟩ = some (.int .i64 x.f) ∧ w'.cell? ⟨z, 1, none⟩ = some (.int .i64 x.t) ∧ w'.cell? ⟨z, 2, none⟩ = some (.string x.s) ∧ w'.cell? ⟨z, 3, none⟩ = some (.bool x.h)) ∧ w'.cell? ⟨r, 0, none⟩ = some (.slice (some ⟨q, o, none⟩) n c1) ∧ w'.cell? ⟨q, o + j * 4, none⟩ = some (.int .i64 x.f) ∧ w'.cell? ⟨q, o + j * 4 + 1, none⟩ = some (.int .i64 x.t) ∧ w'.cell? ⟨q, o + j * 4 + 2, none⟩ = some (.string x.s) ∧ w'.cell? ⟨q, o + j * 4 + 3, none⟩ = some (.bool x.h)) (first | exact HF5.out | exact HF6.out) (first | (go_at_call 16; refine (same_p x _).mono ?_; rintro e w6 ⟨rfl, o6⟩; have HF6 := Lib.hid (HFA.out w6 ((Only.refl (fun _ => False) w5).drew.trans o6)); have HB6 := Lib.hid (Bo.only0 (w := w5.drew) (by exact HB5.out) o6); have HR6 := Lib.hid (Ro.only0 (w := w5.drew) (by exact HR5.out) o6); have HO6 := Lib.hid (o6.below (u := w) (B := w.heap.size) (below_drew HO5.out) HO5.out.size (fun _ h => h.elim)); clear o6))
          go_wp2
          go_roundw
          case rel => exact ⟨j + 1, by go_num, by omega, HB6, HR6, HO6⟩
          case measure => simp [intOf]; omega
        · have hge : ¬ (j : Int) < j := by omega
          go_wp2_with (go_at_call 6; refine (awake_p _).mono ?_; rintro e w12 ⟨rfl, ho⟩; have HA := Lib.hid ho; clear ho)
          go_ret
          exact ⟨rfl, HA.out.below HO.out HO.out.size (fun _ h => h.elim)⟩

end Go.Proofs.Ythgkcjcmliaanaa.Bg

/- BagHurts: the walk of the law. -/
import Derived.Test.YthgkcjcmliaanaaBgP
import Derived.Test.YthgkcjcmliaanaaArgs
set_option linter.unusedVariables false
set_option linter.unusedSimpArgs false
namespace Go.Proofs.Ythgkcjcmliaanaa.Bg
open Go.RowKit Go.Proofs.Ythgkcjcmliaanaa.Base Go.Proofs.Ythgkcjcmliaanaa.Rws Go.Proofs.YthgkcjcmliaanaaW.PrintWords Go.Proofs.YthgkcjcmliaanaaW.PrintMore
attribute [local go_sem] max2_mx min2_mn max_two min_two max_three min_three max_four min_four

theorem hurts_long (s : ByteArray) (A : Option Addr) (len cap : Nat) (w : World) (h : 200 < s.size) :
    Calls Try.prog 3 #[.string s, .slice A len cap] w fun e w' => e = .returned (.bool true) ∧ Below w.heap.size w w' := by
  have h' : (200 : Int) < s.size := by omega
  go_enter Try.func3, Try.ntmps3
  go_wp2_with (go_at_call 6; refine (awake_p _).mono ?_; rintro e w1 ⟨rfl, ho⟩; have HO := Lib.hid ho; clear ho)
  go_ret
  exact ⟨rfl, HO.out.below (Below.refl _ _) (Nat.le_refl _) (fun _ h => h.elim)⟩

/-- Deeds: at each index a kind, a place, a byte's place, and what it is changed by. -/
def Deeds (w : World) (A : Option Addr) (len : Nat) : Prop :=
  ∀ i : Int, 0 ≤ i → i < len → ∃ a K k p b, A = some a ∧ w.cell? (a.add (i.toNat * 8)) = some (.int .i64 K) ∧ w.cell? ⟨(a.add (i.toNat * 8)).block, (a.add (i.toNat * 8)).off + 1, none⟩ = some (.int .i64 k) ∧ w.cell? ⟨(a.add (i.toNat * 8)).block, (a.add (i.toNat * 8)).off + 2, none⟩ = some (.int .i64 p) ∧ w.cell? ⟨(a.add (i.toNat * 8)).block, (a.add (i.toNat * 8)).off + 3, none⟩ = some (.int .i64 b)

theorem cells32 : Try.prog.cellsOf 32 = 8 := by kernel_rfl

theorem deeds_of {w : World} {A : Option Addr} {len : Nat} (h : ∀ i, i < len → ∃ a, A = some a ∧ ∀ o k, (o, k) ∈ [(0, Args.Bs.int .i64), (1, Args.Bs.int .i64), (2, Args.Bs.int .i64), (3, Args.Bs.int .i64), (4, Args.Bs.int .i64), (5, Args.Bs.int .i64), (6, Args.Bs.string), (7, Args.Bs.bool)] → ∃ v, w.cell? (a.add (i * Try.prog.cellsOf 32 + o)) = some v ∧ k.fit v) : Deeds w A len := by
  intro i h0 h1
  obtain ⟨a, hA, hc⟩ := h i.toNat (by omega)
  rw [cells32] at hc
  obtain ⟨v0, hv0, x0, rfl, _⟩ := hc 0 (.int .i64) (by simp)
  obtain ⟨v1, hv1, x1, rfl, _⟩ := hc 1 (.int .i64) (by simp)
  obtain ⟨v2, hv2, x2, rfl, _⟩ := hc 2 (.int .i64) (by simp)
  obtain ⟨v3, hv3, x3, rfl, _⟩ := hc 3 (.int .i64) (by simp)
  exact ⟨a, x0, x1, x2, x3, hA, hv0, by rw [← add_field a (i.toNat * 8) 1 (by omega)]; exact hv1, by rw [← add_field a (i.toNat * 8) 2 (by omega)]; exact hv2, by rw [← add_field a (i.toNat * 8) 3 (by omega)]; exact hv3⟩

theorem drewN_below {B : Nat} (w : World) (n : Nat) : Below B w (w.drewN n) := ⟨rfl, rfl, rfl, Nat.le_refl _, fun _ _ => rfl⟩

set_option maxHeartbeats 8000000 in
set_option maxRecDepth 100000 in
theorem hurts_short (s : ByteArray) (A : Option Addr) (len cap : Nat) (w : World) (h : s.size ≤ 200) (hd : Deeds w A len) (hlen : len ≤ maxLen) :
    Calls Try.prog 3 #[.string s, .slice A len cap] w fun e w' => e = .returned (.bool true) ∧ Below w.heap.size w w' := by
  unfold maxLen at hlen
  have h' : ¬ (200 : Int) < s.size := by omega
  have HS := Lib.hid h
  have HD := Lib.hid hd
  clear h hd
  go_enter Try.func3, Try.ntmps3
  go_wp2_with fail
  refine (new_o _).mono ?_
  rintro e w1 ⟨rfl, h1, o1⟩
  have hsd := send_o h1 ok0 ⟨0, 0, s, false⟩
  have HSD : Hid (Calls Try.prog 8 #[.pointer (some ⟨w.heap.size, 0, none⟩), .agg #[.int .i64 0, .int .i64 0, .string s, .bool false]] w1 fun e w' => e = .returned (.int .i64 0) ∧ Bo w' w.heap.size w.heap.size ⟨[⟨0, 0, s, false⟩], 0⟩ ∧ Only (fun k => w.heap.size ≤ k) w1 w') := Lib.hid hsd
  have O1 : Hid (Below w.heap.size w w1) := Lib.hid (o1.below (Below.refl _ _) (Nat.le_refl _) (fun _ h => h.elim))
  clear h1 o1 hsd
  go_wp2_with fail
  refine HSD.out.mono ?_
  rintro e w2 ⟨rfl, h2, o2⟩
  have H2 := Lib.hid h2
  have O2 := Lib.hid (o2.below O1.out O1.out.size (fun k hk => hk))
  have HA2 : Hid (All s ⟨[⟨0, 0, s, false⟩], 0⟩ 0) := Lib.hid ⟨fun x hx => by simp at hx; subst hx; exact Hu.new s, by simp, rfl⟩
  clear h2 o2 HSD
  go_wp2
  go_loopw [6] (fun vi wr => ∃ (σ : Bs) (i : Int), vi = .int .i64 i ∧ 0 ≤ i ∧ i ≤ 60 ∧ Hid (Bo wr w.heap.size w.heap.size σ) ∧ Hid (Below w.heap.size w wr) ∧ Hid (All s σ i)) (fun vi _ => (60 - intOf vi).toNat)
  case atStart => exact ⟨_, 0, rfl, by omega, by omega, H2, O2, HA2⟩
  case round =>
    obtain ⟨σ, i, rfl, hi0, hi1, HB, HO, HA⟩ := hrel
    have hgo : (i < (len : Int) ∧ i < 60) ∨ (i < (len : Int) ∧ ¬ i < 60) ∨ ¬ i < (len : Int) := by omega
    rcases hgo with ⟨hlt, h60⟩ | ⟨hlt, h60⟩ | hlt
    · obtain ⟨ad, K, k, p, b, hAd, c0, c1, c2, c3⟩ := HD.out i hi0 hlt
      cases hAd
      have hc0 := (HO.out.cell (World.block_lt_of_cell? w _ c0)).trans c0
      have hc1 := (HO.out.cell (World.block_lt_of_cell? w _ c1)).trans c1
      have hc2 := (HO.out.cell (World.block_lt_of_cell? w _ c2)).trans c2
      have hc3 := (HO.out.cell (World.block_lt_of_cell? w _ c3)).trans c3
      clear c0 c1 c2 c3
      have hok := HA.out.ok HS.out hi1
      have hks : K.tmod 3 = 0 ∨ (¬ K.tmod 3 = 0 ∧ K.tmod 3 = 1) ∨ (¬ K.tmod 3 = 0 ∧ ¬ K.tmod 3 = 1) := by omega
      rcases hks with hk0 | ⟨hk0, hk1⟩ | ⟨hk0, hk1⟩
      · have HT := Lib.hid (twice_o HB.out hok k)
        have HA2 := Lib.hid (HA.out.twice hi1 k)
        clear hok
        generalize (twiceM σ k).2 = σ2 at *
        generalize (twiceM σ k).1 = e2 at *
        go_wp2_with (go_at_call 9; refine HT.out.mono ?_; rintro e w3 ⟨rfl, h3, o3⟩; have H3 := Lib.hid h3; have O3 := Lib.hid (o3.below HO.out HO.out.size (fun k hk => hk)); clear h3 o3)
        go_roundw
        case rel => exact ⟨σ2, i + 1, by go_num, by omega, by omega, H3, O3, HA2⟩
        case measure => simp [intOf]; omega
      · have HT := Lib.hid (take_o HB.out hok k)
        have HA2 := Lib.hid (HA.out.take k)
        clear hok
        generalize takeM σ k = σ2 at *
        generalize (lookF σ.L k).2 = e2 at *
        generalize (lookF σ.L k).1.v = e1 at *
        go_wp2_with (go_at_call 10; refine HT.out.mono ?_; rintro e w3 ⟨rfl, h3, o3⟩; have H3 := Lib.hid h3; have O3 := Lib.hid (o3.below HO.out HO.out.size (fun k hk => hk)); clear h3 o3)
        go_roundw
        case rel => exact ⟨σ2, i + 1, by go_num, by omega, by omega, H3, O3, HA2⟩
        case measure => simp [intOf]; omega
      · have HT := Lib.hid (hurt_o (w := wr.drew) HB.out hok k p b)
        have HA2 := Lib.hid (HA.out.hurt k p b)
        clear hok
        generalize (hurtM σ k p b).2 = σ2 at *
        generalize (hurtM σ k p b).1 = e2 at *
        go_wp2
        go_still_tail 16, (by kernel_rfl)
        repeat still_step
        change wpList _ _ _ _ _ wr.drew
        go_wp2_with (go_at_call 11; refine HT.out.mono ?_; rintro e w3 ⟨rfl, h3, o3⟩; have H3 := Lib.hid h3; have O3 := Lib.hid (o3.below (below_drew HO.out) HO.out.size (fun k hk => hk)); clear h3 o3)
        go_roundw
        case rel => exact ⟨σ2, i + 1, by go_num, by omega, by omega, H3, O3, HA2⟩
        case measure => simp [intOf]; omega
    all_goals
      have HN : Hid (σ.L.length ≤ 100) := Lib.hid (by have := HA.out.len; omega)
      have HF : Hid (∀ x ∈ σ.L, Hu s x) := Lib.hid HA.out.fl
      clear HA HD
      go_wp2
      go_loopw [7] (fun vi wr => ∃ i : Nat, vi = .int .i64 (i : Int) ∧ Hid (i ≤ σ.L.length) ∧ Hid (Bo wr w.heap.size w.heap.size σ) ∧ Hid (Below w.heap.size w wr)) (fun vi _ => σ.L.length - (intOf vi).toNat)
      case atStart => exact ⟨0, rfl, Lib.hid (by omega), HB, HO⟩
      case round =>
        obtain ⟨i, rfl, HI, HB, HO⟩ := hrel
        have HLN := Lib.hid (len_o HB.out)
        obtain ⟨n, hn⟩ : ∃ n, n = σ.L.length := ⟨_, rfl⟩
        rw [← hn] at HLN
        have hin : i ≤ n := by have := HI.out; omega
        have hn1 : n ≤ 100 := by have := HN.out; omega
        have HNN := Lib.hid hn
        clear hn
        have hgo : i < n ∨ i = n := by omega
        rcases hgo with hlt | rfl
        · have hlt' : (i : Int) < n := by omega
          obtain ⟨x, hx⟩ : ∃ x, σ.L[i]? = some x := ⟨σ.L[i]'(by have := HNN.out; omega), List.getElem?_eq_getElem _⟩
          have HHU := Lib.hid (HF.out x (List.mem_of_getElem? hx))
          have hlk : lookF σ.L (i : Int) = (x, 0) := by unfold lookF; rw [if_neg (by omega), Int.toNat_natCast, hx]
          have hlo := look_o HB.out (i : Int)
          rw [hlk] at hlo
          obtain ⟨xf, xt, xs, xh⟩ := x
          have HLO : Hid (Calls Try.prog 13 #[.pointer (some ⟨w.heap.size, 0, none⟩), .int .i64 (i : Int)] _ fun e w' => e = .returned (.tuple #[.agg #[.int .i64 xf, .int .i64 xt, .string xs, .bool xh], .int .i64 0]) ∧ Bo w' w.heap.size w.heap.size σ ∧ Only (fun k => w.heap.size ≤ k) _ w') := Lib.hid hlo
          clear hlo hlk hx
          go_wp2_with (first | (go_at_call 12; refine HLN.out.mono ?_; rintro e w' ⟨rfl, rfl⟩) | (go_at_call 13; refine HLO.out.mono ?_; rintro e w4 ⟨rfl, h4, o4⟩; have H4 := Lib.hid (h4.only0 ((Only.refl _ w4).alloc (.cells #[.int .i64 xf, .int .i64 xt, .string xs, .bool xh] 29))); have O4 := Lib.hid (below_alloc (o4.below HO.out HO.out.size (fun k hk => hk)) (.cells #[.int .i64 xf, .int .i64 xt, .string xs, .bool xh] 29)); have K4 := Lib.hid (heap_alloc_new w4 (.cells #[.int .i64 xf, .int .i64 xt, .string xs, .bool xh] 29)); clear h4 o4))
          have hsz := HHU.out.1
          simp only at hsz
          have hS := HS.out
          generalize w4.alloc (.cells #[.int .i64 xf, .int .i64 xt, .string xs, .bool xh] 29) = w5 at *
          generalize w4.heap.size = q at *
          go_wp2
          go_loopw [10, 11] (fun va vk wr => ∃ k : Nat, va = .int .i64 (apN s xs k) ∧ vk = .int .i64 (k : Int) ∧ k ≤ s.size ∧ Hid (Bo wr w.heap.size w.heap.size σ) ∧ Hid (Below w.heap.size w wr) ∧ Hid (wr.heap[q]? = some (.cells #[.int .i64 xf, .int .i64 xt, .string xs, .bool xh] 29 (0, 0)))) (fun _ vk _ => s.size - (intOf vk).toNat)
          case atStart => exact ⟨0, rfl, rfl, by omega, H4, O4, K4⟩
          case round =>
            obtain ⟨k, rfl, rfl, hk, HB, HO, KB⟩ := hrel
            have hap := apN_bd s xs k
            have hgo : k < s.size ∨ k = s.size := by omega
            rcases hgo with hkl | rfl
            · have hkl' : (k : Int) < s.size := by omega
              have hkx : (k : Int) < xs.size := by omega
              have hk0 : (0 : Int) ≤ (k : Int) := by omega
              have cb := cell_at KB.out 2 rfl
              have hb1 : ∀ h : k < xs.size, ((xs[k]'h).toNat : Int) = bt xs (k : Int) := fun h => bt_at xs (k : Int) h
              have hb2 : ∀ h : k < s.size, ((s[k]'h).toNat : Int) = bt s (k : Int) := fun h => bt_at s (k : Int) h
              go_wp2
              go_quiet (fail)
              go_wp2
              · rename_i hc
                rw [bne_iff_ne] at hc
                have hap1 : apN s xs (k + 1) = apN s xs k + 1 := by show apN s xs k + _ = _; rw [if_neg hc]
                go_roundw
                case rel => exact ⟨k + 1, by rw [hap1], by go_num, by omega, Lib.hid (HB.out.only0 ((Only.refl _ _).drewN _)), Lib.hid (HO.out.trans (drewN_below _ _)), KB⟩
                case measure => simp [intOf]; omega
              · rename_i hc
                rw [bne_eq_false_iff_eq] at hc
                have hap1 : apN s xs (k + 1) = apN s xs k := by show apN s xs k + _ = _; rw [if_pos hc]; omega
                go_roundw
                case rel => exact ⟨k + 1, by rw [hap1], by go_num, by omega, Lib.hid (HB.out.only0 ((Only.refl _ _).drewN _)), Lib.hid (HO.out.trans (drewN_below _ _)), KB⟩
                case measure => simp [intOf]; omega
            · have hue := HHU.out.ap
              simp only at hue
              have cb := cell_at KB.out 2 rfl
              have cb3 := cell_at KB.out 3 rfl
              cases xh
              · simp only [Bool.false_eq_true, if_false] at hue
                rw [hue]
                go_wp2
                go_roundw
                case rel => exact ⟨i + 1, by go_num, Lib.hid (by have := HNN.out; omega), HB, HO⟩
                case measure => simp [intOf]; have := HNN.out; omega
              · simp only [if_true] at hue
                rw [hue]
                go_wp2
                go_roundw
                case rel => exact ⟨i + 1, by go_num, Lib.hid (by have := HNN.out; omega), HB, HO⟩
                case measure => simp [intOf]; have := HNN.out; omega
        · have hge : ¬ (i : Int) < i := by omega
          go_wp2_with (first | (go_at_call 12; refine HLN.out.mono ?_; rintro e w' ⟨rfl, rfl⟩) | (go_at_call 6; refine (awake_p _).mono ?_; rintro e w12 ⟨rfl, ho⟩; have HA := Lib.hid ho; clear ho))
          go_ret
          exact ⟨rfl, HA.out.below HO.out HO.out.size (fun _ h => h.elim)⟩

theorem hurts_walk (s : ByteArray) (A : Option Addr) (len cap : Nat) (w : World) (hd : Deeds w A len) (hlen : len ≤ maxLen) :
    Calls Try.prog 3 #[.string s, .slice A len cap] w fun e w' => e = .returned (.bool true) ∧ Below w.heap.size w w' := by
  by_cases h : 200 < s.size
  · exact hurts_long s A len cap w h
  · exact hurts_short s A len cap w (by omega) hd hlen

end Go.Proofs.Ythgkcjcmliaanaa.Bg

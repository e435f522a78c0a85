/- Wheel: whatever is done, both say the same. -/
import Derived.Test.YtkjokpmlnnjmoaaWrd
import Derived.Test.YtkjokpmlnnjmoaaArgs
import Derived.Deep.RegionWith
set_option linter.unusedVariables false
set_option linter.unusedSimpArgs false
namespace Go.Proofs.Ytkjokpmlnnjmoaa.Wh
open Go.RowKit Go.Maps Go.Proofs.Ytkjokpmlnnjmoaa.Base Go.Proofs.Ytkjokpmlnnjmoaa.Rws Go.Proofs.YtkjokpmlnnjmoaaW.PrintWords Go.Proofs.YtkjokpmlnnjmoaaW.PrintMore
attribute [local go_sem] max2_mx min2_mn max_two min_two max_three min_three max_four min_four

/-- A row of deeds. -/
def Deeds (w : World) (A : Option Addr) (len : Nat) : Prop :=
  ∀ i : Nat, i < len → ∃ (a : Addr) (K N : Int) (b : Bool), A = some a ∧ (Lit.int .i64 N).wf = true ∧ w.cell? (a.add (i * 3)) = some (.int .i64 K) ∧ w.cell? ⟨(a.add (i * 3)).block, (a.add (i * 3)).off + 1, none⟩ = some (.int .i64 N) ∧ w.cell? ⟨(a.add (i * 3)).block, (a.add (i * 3)).off + 2, none⟩ = some (.bool b)

theorem cells47 : Try.prog.cellsOf 47 = 3 := by kernel_rfl

theorem deeds_of {w : World} {A : Option Addr} {len : Nat} (h : ∀ i, i < len → ∃ a, A = some a ∧ ∀ o k, (o, k) ∈ [(0, Args.Bs.int .i64), (1, Args.Bs.int .i64), (2, Args.Bs.bool)] → ∃ v, w.cell? (a.add (i * Try.prog.cellsOf 47 + o)) = some v ∧ k.fit v) : Deeds w A len := by
  intro i h1
  obtain ⟨a, hA, hc⟩ := h i h1
  rw [cells47] at hc
  obtain ⟨v0, hv0, x0, rfl, _⟩ := hc 0 (.int .i64) (by simp)
  obtain ⟨v1, hv1, x1, rfl, hw1⟩ := hc 1 (.int .i64) (by simp)
  obtain ⟨v2, hv2, x2, rfl⟩ := hc 2 .bool (by simp)
  exact ⟨a, x0, x1, x2, hA, hw1, hv0, by rw [← add_field a (i * 3) 1 (by omega)]; exact hv1, by rw [← add_field a (i * 3) 2 (by omega)]; exact hv2⟩

set_option maxHeartbeats 8000000 in
set_option maxRecDepth 100000 in
theorem plays_walk (now : Int) (A : Option Addr) (len cap : Nat) (w : World) (hd : Deeds w A len) (hlen : len ≤ maxLen) :
    Calls Try.prog 7 #[.int .i64 now, .slice A len cap] w fun e w' => e = .returned (.bool true) ∧ Below w.heap.size w w' := by
  have HAW : Hid (∀ w, Calls Try.prog 9 #[] w fun e w' => e = .returned (.bool true) ∧ Only (fun _ => False) w w') := Lib.hid awake_p
  have HD := Lib.hid hd
  have HNW := Lib.hid (wh_new now w)
  have HC : Hid (∀ w, Calls Try.prog 13 #[.int .i64 now] w fun e w' => e = .returned (.int .i64 (cl now)) ∧ w = w') := Lib.hid (clampR_p now)
  have HLEN := Lib.hid hlen
  clear hd hlen
  go_enter Try.func7, Try.ntmps7
  go_upto_region 2 with (go_at_call 10; refine HNW.out.mono ?_; rintro e w1 ⟨g, F, rfl, h1, hf, o1⟩; have H1 := Lib.hid h1; have HF := Lib.hid hf; have O1 := Lib.hid o1; clear h1 hf o1)
  obtain ⟨y, hy⟩ : ∃ y, y = cl now := ⟨_, rfl⟩
  rw [← hy] at HC H1
  clear hy
  go_upto_region 3 with (go_at_call 13; refine (HC.out _).mono ?_; rintro e w' ⟨rfl, rfl⟩)
  obtain ⟨r, hr⟩ : ∃ r, r = w1.heap.size := ⟨_, rfl⟩
  obtain ⟨w2, hw2⟩ : ∃ w2, w2 = w1.alloc (.cells #[.int .i64 y, .int .i64 0, .slice none 0 0] 44) := ⟨_, rfl⟩
  rw [← hr, ← hw2]
  have HST : Hid (St w w2 g F r (fun k => k = r) y 0 (.slice none 0 0) []) := by
    have ho2 : Only (fun _ => False) w1 w2 := by rw [hw2]; exact (Only.refl _ w1).alloc _
    have hsz : w2.heap.size = w1.heap.size + 1 := by rw [hw2]; show (w1.heap.push _).size = _; simp
    exact Lib.hid ⟨H1.out.only ho2 (fun _ _ h => h), ⟨by rw [hw2, hr]; exact heap_alloc_new w1 _, Row.nil _ _ _ _, rfl, fun k hk => by omega⟩, .nil, fun k hk h => by have := H1.out.flt k hk; omega, HF.out, fun k hk => by have := O1.out.size; omega, O1.out.trans ho2, by simp⟩
  clear hr hw2 H1 HF O1 HNW HC
  go_upto_region 4 with fail
  go_loopw [7, 8, 9] (fun v7 _ _ wr => ∃ (i : Nat) (F G : Nat → Prop) (n last : Int) (v : Value) (R : List (Int × Int)), v7 = .int .i64 (i : Int) ∧ i ≤ 60 ∧ Hid (St w wr g F r G n last v R) ∧ Hid (last ≤ (i : Int))) (fun v7 _ _ _ => 60 - (RowKit.intOf v7).toNat)
  case atStart => exact ⟨0, F, _, y, 0, _, [], rfl, Nat.zero_le _, HST, Lib.hid (Int.le_refl _)⟩
  case round =>
    clear HST
    obtain ⟨i, F, G, n, last, v, R, rfl, hi, HST, HLA⟩ := hrel
    have hgo : (i < len ∧ i < 60) ∨ (i < len ∧ i = 60) ∨ ¬ i < len := by omega
    rcases hgo with ⟨hlt, h60⟩ | ⟨hlt, h60⟩ | hlt
    · have hlt' : (i : Int) < (len : Int) := by omega
      have h60' : (i : Int) < 60 := by omega
      obtain ⟨ad, dk, dn, db, rfl, hwf, c0, c1, c2⟩ := HD.out i hlt
      have HCE : Hid (∀ W, Only (fun _ => False) w W → W.cell? (ad.add (i * 3)) = some (.int .i64 dk) ∧ W.cell? ⟨(ad.add (i * 3)).block, (ad.add (i * 3)).off + 1, none⟩ = some (.int .i64 dn) ∧ W.cell? ⟨(ad.add (i * 3)).block, (ad.add (i * 3)).off + 2, none⟩ = some (.bool db)) := Lib.hid (fun W ho => ⟨(below_of ho).cell (World.block_lt_of_cell? w _ c0) |>.trans c0, (below_of ho).cell (World.block_lt_of_cell? w _ c1) |>.trans c1, (below_of ho).cell (World.block_lt_of_cell? w _ c2) |>.trans c2⟩)
      have hsd := HST.out.only ((Only.refl (fun _ => False) wr).drew) (fun _ h => h.elim)
      have HDO := Lib.hid (does_p dk dn db hsd hwf (by have := HLA.out; omega))
      obtain ⟨z0, z1, z2⟩ := HCE.out wr HST.out.on
      clear hwf c0 c1 c2 hsd
      go_upto_region 6 with fail
      go_region_with (first
        | (go_at_call 19; refine HDO.out.mono ?_; rintro e w3 ⟨rfl, F3, G3, n3, last3, v3, R3, hst, hl3⟩
           obtain ⟨A3, c3, hv3, _⟩ := Row.form hst.b.row
           obtain ⟨N3, hN3⟩ : ∃ N3, N3 = R3.length := ⟨_, rfl⟩
           rw [← hN3] at hv3
           subst hv3
           have hy0 := hst.b.now
           have hy2 := hst.b.val
           have hce3 := HCE.out w3 hst.on
           have HNO := Lib.hid (wh_now hst.a)
           have hle := wh_len hst.a
           rw [← hN3] at hle
           have HLE := Lib.hid hle
           have HS3 := Lib.hid hst
           have HL3 := Lib.hid hl3
           have HN3 := Lib.hid hN3
           clear hst hl3 hle hN3)
        | (go_at_call 15; refine HNO.out.mono ?_; rintro e w' ⟨rfl, rfl⟩)
        | (go_at_call 14; refine HLE.out.mono ?_; rintro e w' ⟨rfl, rfl⟩))
      all_goals
        clear z0 z1 z2 HDO HNO HLE hce3
        by_cases hR : R3 = []
        · have hf0 : Calls Try.prog 17 #[.pointer (some ⟨g, 0, none⟩)] w3 fun e w' => e = .returned (.tuple #[.int .i64 0, .bool false]) ∧ w3 = w' := by
            have h := HS3.out.a
            rw [hR] at h
            exact wh_first0 h
          have HF0 := Lib.hid hf0
          have h0 : N3 = 0 := by rw [HN3.out, hR]; rfl
          clear hR hf0
          subst h0
          go_upto_region 9 with (go_at_call 17; refine HF0.out.mono ?_; rintro e w' ⟨rfl, rfl⟩)
          go_wp2
          go_roundw
          case rel => exact ⟨i + 1, F3, G3, n3, last3, _, R3, by go_num, by omega, HS3, Lib.hid (by have h1 := HL3.out; have h2 := HLA.out; omega)⟩
          case measure => simp [RowKit.intOf]; omega
        · have hpos : 0 < R3.length := List.length_pos_iff.2 hR
          obtain ⟨p, hp⟩ : ∃ p, R3[0]? = some p := ⟨R3[0], List.getElem?_eq_getElem hpos⟩
          have hfp : Calls Try.prog 17 #[.pointer (some ⟨g, 0, none⟩)] w3 fun e w' => e = .returned (.tuple #[.int .i64 p.1, .bool true]) ∧ Only (fun _ => False) w3 w' := (wh_first HS3.out.a hR).mono (fun e w' h => by
            obtain ⟨m, he, hall, ⟨q, hq, hm⟩, ho⟩ := h
            have h1 := hall p (List.mem_of_getElem? hp)
            have h2 : p.1 ≤ q.1 := by
              obtain ⟨k, hk, hke⟩ := List.getElem_of_mem hq
              obtain ⟨h0, hpe⟩ := List.getElem?_eq_some_iff.1 hp
              have hs := sorted_le HS3.out.so
              rw [List.pairwise_iff_getElem] at hs
              by_cases h3 : k = 0
              · subst h3; rw [← hpe, ← hke]; exact Int.le_refl _
              · have := hs 0 k h0 hk (by omega)
                rw [hpe, hke] at this
                exact this
            have : m = p.1 := by omega
            rw [this] at he
            exact ⟨he, ho⟩)
          have HFP := Lib.hid hfp
          have HP := Lib.hid hp
          have hN0 : 0 < N3 := by rw [HN3.out]; exact hpos
          clear hR hpos hp hfp
          go_upto_region 9 with (go_at_call 17; refine HFP.out.mono ?_; rintro e w4 ⟨rfl, o4⟩; have O4 := Lib.hid o4; clear o4)
          have HS4 := Lib.hid (HS3.out.only O4.out (fun _ h => h.elim))
          have hrow := HS4.out.b.row
          unfold Rs at hrow
          rw [← HN3.out] at hrow
          obtain ⟨q, o, d, hs, _⟩ := Row.some_ hrow (by omega)
          injection hs with s1 s2 s3
          subst s1 s3
          have hx0 : w4.cell? ⟨q, o, none⟩ = some (.int .i64 p.1) := Row.cell hrow 0 (by have := encP_at R3 0 0 p HP.out (by decide); exact this)
          have hu2 := HS4.out.b.val
          clear hrow hy0 hy2 s2
          go_wp2
          go_roundw
          case rel => exact ⟨i + 1, F3, G3, n3, last3, _, R3, by go_num, by omega, HS4, Lib.hid (by have h1 := HL3.out; have h2 := HLA.out; omega)⟩
          case measure => simp [RowKit.intOf]; omega
    · subst h60
      rw [show ((60 : Nat) : Int) = (60 : Int) from rfl]
      have hlt' : (60 : Int) < (len : Int) := by omega
      go_wp2_with (go_at_call 9; refine (HAW.out _).mono ?_; rintro e w6 ⟨rfl, o6⟩; have O6 := Lib.hid o6; clear o6)
      go_ret
      exact ⟨rfl, below_of (HST.out.on.trans O6.out)⟩
    · have hge : ¬ (i : Int) < (len : Int) := by omega
      go_wp2_with (go_at_call 9; refine (HAW.out _).mono ?_; rintro e w6 ⟨rfl, o6⟩; have O6 := Lib.hid o6; clear o6)
      go_ret
      exact ⟨rfl, below_of (HST.out.on.trans O6.out)⟩

end Go.Proofs.Ytkjokpmlnnjmoaa.Wh

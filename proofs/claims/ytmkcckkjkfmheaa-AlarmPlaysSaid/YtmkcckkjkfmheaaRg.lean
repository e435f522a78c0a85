/- Alarm: whatever is set, cleared and due, both say the same. -/
import Derived.Test.YtmkcckkjkfmheaaRf
import Derived.Test.YtmkcckkjkfmheaaArgs
import Derived.Deep.RegionWith
set_option linter.unusedVariables false
set_option linter.unusedSimpArgs false
set_option maxRecDepth 100000
namespace Go.Proofs.Ytmkcckkjkfmheaa.Al
open Go.RowKit Go.Maps Go.Proofs.Ytmkcckkjkfmheaa.Base Go.Proofs.Ytmkcckkjkfmheaa.Rws Go.Proofs.Ytmkcckkjkfmheaa.Wh Go.Proofs.YtmkcckkjkfmheaaW.PrintWords Go.Proofs.YtmkcckkjkfmheaaW.PrintMore
attribute [local go_sem] max2_mx min2_mn max_two min_two max_three min_three max_four min_four
attribute [local go_sem high] eqK27 eqK33

/-- Deeds, in a slice. -/
def InD (w : World) (A : Option Addr) (len : Nat) : Prop :=
  ∀ i : Nat, i < len → ∃ (a : Addr) (kind : Int) (k : K5) (t : Int), A = some a ∧ k.wf ∧ ∀ V, Only (fun _ => False) w V → V.cell? (a.add (i * 7)) = some (.int .i64 kind) ∧ V.cell? ⟨(a.add (i * 7)).block, (a.add (i * 7)).off + 1, none⟩ = some (.int .i64 k.a) ∧ V.cell? ⟨(a.add (i * 7)).block, (a.add (i * 7)).off + 2, none⟩ = some (.int .i64 k.b) ∧ V.cell? ⟨(a.add (i * 7)).block, (a.add (i * 7)).off + 3, none⟩ = some (.int .i64 k.c) ∧ V.cell? ⟨(a.add (i * 7)).block, (a.add (i * 7)).off + 4, none⟩ = some (.int .i64 k.d) ∧ V.cell? ⟨(a.add (i * 7)).block, (a.add (i * 7)).off + 5, none⟩ = some (.int .i64 k.e) ∧ V.cell? ⟨(a.add (i * 7)).block, (a.add (i * 7)).off + 6, none⟩ = some (.int .i64 t)

theorem cells56 : Try.prog.cellsOf 56 = 7 := by kernel_rfl

theorem inD_of {w : World} {A : Option Addr} {len : Nat} (h : ∀ i, i < len → ∃ a, A = some a ∧ ∀ o k, (o, k) ∈ [(0, Args.Bs.int .i64), (1, Args.Bs.int .i64), (2, Args.Bs.int .i64), (3, Args.Bs.int .i64), (4, Args.Bs.int .i64), (5, Args.Bs.int .i64), (6, Args.Bs.int .i64)] → ∃ v, w.cell? (a.add (i * Try.prog.cellsOf 56 + o)) = some v ∧ k.fit v) : InD w A len := by
  intro i h1
  obtain ⟨a, hA, hc⟩ := h i h1
  rw [cells56] at hc
  obtain ⟨v0, hv0, x0, rfl, hw0⟩ := hc 0 (.int .i64) (by simp)
  obtain ⟨v1, hv1, x1, rfl, hw1⟩ := hc 1 (.int .i64) (by simp)
  obtain ⟨v2, hv2, x2, rfl, hw2⟩ := hc 2 (.int .i64) (by simp)
  obtain ⟨v3, hv3, x3, rfl, hw3⟩ := hc 3 (.int .i64) (by simp)
  obtain ⟨v4, hv4, x4, rfl, hw4⟩ := hc 4 (.int .i64) (by simp)
  obtain ⟨v5, hv5, x5, rfl, hw5⟩ := hc 5 (.int .i64) (by simp)
  obtain ⟨v6, hv6, x6, rfl, hw6⟩ := hc 6 (.int .i64) (by simp)
  rw [add_field a (i * 7) 1 (by omega)] at hv1
  rw [add_field a (i * 7) 2 (by omega)] at hv2
  rw [add_field a (i * 7) 3 (by omega)] at hv3
  rw [add_field a (i * 7) 4 (by omega)] at hv4
  rw [add_field a (i * 7) 5 (by omega)] at hv5
  rw [add_field a (i * 7) 6 (by omega)] at hv6
  exact ⟨a, x0, ⟨x1, x2, x3, x4, x5⟩, x6, hA, ⟨hw1, hw2, hw3, hw4, hw5⟩, fun V hV => ⟨cell_only hv0 hV, cell_only hv1 hV, cell_only hv2 hV, cell_only hv3 hV, cell_only hv4 hV, cell_only hv5 hV, cell_only hv6 hV⟩⟩

set_option maxHeartbeats 32000000 in
theorem plays_walk (g : Int) (A1 : Option Addr) (n cap1 : Nat) (W : World) (hd : InD W A1 n) (hlen : n ≤ maxLen) :
    Calls Try.prog 6 #[.int .i64 g, .slice A1 n cap1] W fun e w' => e = .returned (.bool true) ∧ Below W.heap.size W w' := by
  have HD := Lib.hid hd
  have HNEW : Hid (∀ w, _) := Lib.hid (fun w => new_a g w)
  have HRNW : Hid (∀ w, _) := Lib.hid (fun w => rnew_p g w)
  have hG := clg_bd g
  obtain ⟨G, hGG⟩ : ∃ G, G = clg g := ⟨_, rfl⟩
  rw [← hGG] at HNEW HRNW hG
  have HG := Lib.hid hG
  clear hd hG hGG hlen
  go_enter Try.func6, Try.ntmps6
  go_wp2_with fail
  go_at_call 8
  refine (HNEW.out _).mono ?_
  rintro en w3 ⟨p, F, rfl, hA, hfa, ho3⟩
  have HA3 := Lib.hid hA
  have HFA := Lib.hid hfa
  have HO3 := Lib.hid ho3
  clear hA hfa ho3
  go_upto_region 2 with (go_at_call 20; refine (HRNW.out _).mono ?_; rintro en w4 ⟨r, rfl, hB, hfb, ho4⟩; have HB4 := Lib.hid hB; have HFB := Lib.hid hfb; have HO4 := Lib.hid ho4; clear hB hfb ho4)
  have HP : Hid (Ply W w4 p F G 0 0 [] r (.slice none 0 0) 0 []) := Lib.hid ⟨HA3.out.only HO4.out (fun _ _ h => h), HB4.out, ⟨.nil, .refl _, ⟨by simp, by decide, by decide⟩, by simp⟩, fun k hk hk2 => by
      have := HA3.out.flt k hk
      rcases hk2 with rfl | hk2
      · have := HFB.out; omega
      · simp [Value.ownBlock] at hk2, HFA.out, fun k hk2 => by
      rcases hk2 with rfl | hk2
      · exact Nat.le_trans HO3.out.size HFB.out
      · simp [Value.ownBlock] at hk2, HO3.out.trans HO4.out⟩
  clear HA3 HFA HO3 HB4 HFB HO4 HNEW HRNW
  go_upto_region 3 with fail
  go_loopw [7] (fun v7 wr => ∃ (i : Nat) (F : Nat → Prop) (nn last : Int) (A : List En) (v : Value) (now : Int) (R : List NT), v7 = .int .i64 (i : Int) ∧ i ≤ 60 ∧ Hid (Ply W wr p F G nn last A r v now R) ∧ Hid (last ≤ (i : Int)) ∧ Hid (A.length ≤ i)) (fun v7 _ => 60 - (RowKit.intOf v7).toNat)
  case atStart => exact ⟨0, F, _, _, _, _, _, _, rfl, Nat.zero_le _, HP, Lib.hid (Int.le_refl _), Lib.hid (Nat.le_refl _)⟩
  case round =>
    clear HP
    obtain ⟨i, F, nn, last, A, v, now, R, rfl, hi, HP, HLA, HAL⟩ := hrel
    have hgo : (i < n ∧ i < 60) ∨ (((i : Int) < (n : Int) ∧ ¬ (i : Int) < 60) ∨ ¬ (i : Int) < (n : Int)) := by omega
    rcases hgo with ⟨hlt, h60⟩ | hex
    · have hlt' : (i : Int) < (n : Int) := by omega
      have h60' : (i : Int) < 60 := by omega
      obtain ⟨ad, kind, k, t, rfl, hkw, hcells⟩ := HD.out i hlt
      have hpd := HP.out.pass ((Only.refl (fun _ => False) wr).drew)
      have HDO := Lib.hid (does_p kind k t hkw hpd (by have := HAL.out; omega) (by have := HLA.out; omega))
      obtain ⟨z0, z1, z2, z3, z4, z5, z6⟩ := hcells wr HP.out.on
      clear hcells hkw hpd hlt
      go_upto_region 5 with fail
      go_region_with (first
        | (go_at_call 21; refine HDO.out.mono ?_; rintro e w5 ⟨rfl, F3, n3, last3, A3, v3, now3, R3, hp3, hl3, hA3⟩
           obtain ⟨A', c', hv3⟩ := hp3.b.form
           obtain ⟨M3, hM3⟩ : ∃ M3, M3 = R3.length := ⟨_, rfl⟩
           rw [← hM3] at hv3
           subst hv3
           have hy0 := hp3.b.c0
           have hle := hp3.a.len
           rw [← hp3.rl.len, ← hM3] at hle
           have HLE := Lib.hid hle
           have HP3 := Lib.hid hp3
           have HL3 := Lib.hid hl3
           have HAL3 := Lib.hid hA3
           clear hp3 hl3 hA3 hle hM3)
        | (go_at_call 12; refine HLE.out.mono ?_; rintro e w' ⟨rfl, rfl⟩))
      all_goals
        go_wp2
        go_roundw
        case rel => exact ⟨i + 1, F3, n3, last3, A3, _, now3, R3, by go_num, by omega, HP3, Lib.hid (by have h1 := HL3.out; have h2 := HLA.out; omega), Lib.hid (by have h1 := HAL3.out; have h2 := HAL.out; omega)⟩
        case measure => simp [RowKit.intOf]; omega
    · rcases hex with ⟨g1, g2⟩ | g1
      all_goals
        have hall := all_a HP.out.a
        unfold AllP at hall
        rw [HP.out.rl.all] at hall
        have HAP := Lib.hid hall
        obtain ⟨A', c', hv⟩ := HP.out.b.form
        obtain ⟨M, hM⟩ : ∃ M, M = R.length := ⟨_, rfl⟩
        rw [← hM] at hv
        subst hv
        have HM := Lib.hid hM
        have HMM : Hid (M = (R.map Prod.fst).length) := Lib.hid (by rw [List.length_map]; exact hM)
        have hMb : M ≤ 60 := by rw [hM, HP.out.rl.len]; have := HAL.out; omega
        clear hall hM
        go_upto_region 8 with (go_at_call 22; refine HAP.out.mono ?_; rintro en w5 ⟨v8, rfl, ht8, ho8⟩; obtain ⟨A8, c8, hv8, _⟩ := Row.form ht8; rw [← HMM.out] at hv8; subst hv8; have HT8 := Lib.hid ht8; have HP5 := Lib.hid (HP.out.pass ho8); clear ht8 ho8)
        have x0 := HP5.out.b.c0
        have x1 := HP5.out.b.c1
        have HGR : Hid (∀ V, Only (fun _ => False) w5 V → Calls Try.prog 9 #[.pointer (some ⟨p, 0, none⟩)] V fun e w' => e = .returned (.int .i64 (pw G)) ∧ w' = V) := Lib.hid (fun V hV => ((HP5.out.pass hV).a.grain).mono fun _ _ h => ⟨h.1, h.2.symm⟩)
        obtain ⟨q, hq⟩ : ∃ q, q = pw G := ⟨_, rfl⟩
        rw [← hq] at x1 HGR
        clear hq HAP HP
        go_quiet ((go_at_call 9; exact Calls.quiet_of_same (HGR.out _ ((Only.refl _ _).drewN _))))
        obtain ⟨w6, hw6⟩ : ∃ w6, w6 = w5.drewN nq := ⟨_, rfl⟩
        rw [← hw6]
        have HO6 : Hid (Only (fun _ => False) w5 w6) := by rw [hw6]; exact Lib.hid ((Only.refl _ w5).drewN _)
        clear hw6 x0 x1
        go_upto_region 11 with fail
        go_loopw [9] (fun v9 wr2 => ∃ j : Nat, v9 = .int .i64 (j : Int) ∧ j ≤ M ∧ Hid (Only (fun _ => False) w5 wr2)) (fun v9 _ => M - (RowKit.intOf v9).toNat)
        case atStart => exact ⟨0, rfl, Nat.zero_le _, HO6⟩
        case round =>
          obtain ⟨j, rfl, hj, HOc⟩ := hrel
          have hgo3 : j < M ∨ j = M := by omega
          rcases hgo3 with hlt | rfl
          · have hlt' : (j : Int) < (M : Int) := by omega
            have hio : j < R.length := by rw [← HM.out]; exact hlt
            have hge : R[j]? = some R[j] := List.getElem?_eq_getElem hio
            obtain ⟨pk, hpk⟩ : ∃ pk, pk = R[j] := ⟨_, rfl⟩
            rw [← hpk] at hge
            have hge8 : (R.map Prod.fst)[j]? = some pk.1 := by rw [List.getElem?_map, hge]; rfl
            obtain ⟨q4, o4, d4, hs, _⟩ := Row.some_ HT8.out (by rw [← HMM.out]; omega)
            injection hs with s1 s2 s3
            subst s1 s3
            clear s2
            obtain ⟨q5, o5, d5, hs, _⟩ := Row.some_ HP5.out.b.row (by rw [← HM.out]; omega)
            injection hs with s1 s2 s3
            subst s1 s3
            clear s2
            obtain ⟨k, t⟩ := pk
            have HMI := Lib.hid (fun w => mine_v' k w)
            have hqk : eqK ⟨k.a, k.b, k.c, k.d, k.e⟩ ⟨k.a, k.b, k.c, k.d, k.e⟩ = true := (eqK_iff _ _).2 rfl
            have KE : Hid (∀ V, Only (fun _ => False) w5 V → (V.cell? ⟨q4, o4 + j * 5, none⟩ = some (.int .i64 k.a) ∧ V.cell? ⟨q4, o4 + j * 5 + 1, none⟩ = some (.int .i64 k.b) ∧ V.cell? ⟨q4, o4 + j * 5 + 2, none⟩ = some (.int .i64 k.c) ∧ V.cell? ⟨q4, o4 + j * 5 + 3, none⟩ = some (.int .i64 k.d) ∧ V.cell? ⟨q4, o4 + j * 5 + 4, none⟩ = some (.int .i64 k.e)) ∧ V.cell? ⟨r, 0, none⟩ = some (.slice (some ⟨q5, o5, none⟩) M c') ∧ V.cell? ⟨q5, o5 + j * 6, none⟩ = some (.int .i64 k.a) ∧ V.cell? ⟨q5, o5 + j * 6 + 1, none⟩ = some (.int .i64 k.b) ∧ V.cell? ⟨q5, o5 + j * 6 + 2, none⟩ = some (.int .i64 k.c) ∧ V.cell? ⟨q5, o5 + j * 6 + 3, none⟩ = some (.int .i64 k.d) ∧ V.cell? ⟨q5, o5 + j * 6 + 4, none⟩ = some (.int .i64 k.e) ∧ V.cell? ⟨q5, o5 + j * 6 + 5, none⟩ = some (.int .i64 t)) := Lib.hid (fun V hV => ⟨Ns.at_ (HT8.out.only hV (fun _ _ h => h)) HMM.out hge8, (HP5.out.pass hV).b.c0, Rr.at_ (HP5.out.pass hV).b.row HM.out hge⟩)
            clear hge hpk hio hge8
            go_upto_region 13 with fail
            go_region_held3 (fun V => (V.cell? ⟨q4, o4 + j * 5, none⟩ = some (.int .i64 k.a) ∧ V.cell? ⟨q4, o4 + j * 5 + 1, none⟩ = some (.int .i64 k.b) ∧ V.cell? ⟨q4, o4 + j * 5 + 2, none⟩ = some (.int .i64 k.c) ∧ V.cell? ⟨q4, o4 + j * 5 + 3, none⟩ = some (.int .i64 k.d) ∧ V.cell? ⟨q4, o4 + j * 5 + 4, none⟩ = some (.int .i64 k.e)) ∧ V.cell? ⟨r, 0, none⟩ = some (.slice (some ⟨q5, o5, none⟩) M c') ∧ V.cell? ⟨q5, o5 + j * 6, none⟩ = some (.int .i64 k.a) ∧ V.cell? ⟨q5, o5 + j * 6 + 1, none⟩ = some (.int .i64 k.b) ∧ V.cell? ⟨q5, o5 + j * 6 + 2, none⟩ = some (.int .i64 k.c) ∧ V.cell? ⟨q5, o5 + j * 6 + 3, none⟩ = some (.int .i64 k.d) ∧ V.cell? ⟨q5, o5 + j * 6 + 4, none⟩ = some (.int .i64 k.e) ∧ V.cell? ⟨q5, o5 + j * 6 + 5, none⟩ = some (.int .i64 t)) (first | exact KE.out _ HOc.out | exact KE.out _ HOc.out.drew) ((go_at_call 11; refine (HMI.out _).mono ?_; rintro en w7 ⟨rfl, ho⟩; have HOd : Hid (Only (fun _ => False) w5 w7) := Lib.hid (by first | exact HOc.out.trans ho | exact HOc.out.drew.trans ho); clear HOc ho; have HOc := HOd; clear HOd))
            go_wp2
            go_roundw
            case rel => exact ⟨j + 1, by go_num, by omega, HOc⟩
            case measure => simp [RowKit.intOf]; omega
          · have hge : ¬ (j : Int) < j := by omega
            go_wp2_with (go_at_call 16; refine (awake_p _).mono ?_; rintro en w9 ⟨rfl, ho9⟩; have HO9 := Lib.hid ho9; clear ho9)
            go_ret
            exact ⟨rfl, below_of ((HP5.out.on.trans HOc.out).trans HO9.out)⟩
end Go.Proofs.Ytmkcckkjkfmheaa.Al

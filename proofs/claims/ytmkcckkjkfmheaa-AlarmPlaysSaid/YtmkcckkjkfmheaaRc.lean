/- Alarm: the document's Set. -/
import Derived.Test.YtmkcckkjkfmheaaRb
import Derived.Test.YtmkcckkjkfmheaaAlJ
set_option linter.unusedVariables false
set_option linter.unusedSimpArgs false
set_option maxRecDepth 100000
namespace Go.Proofs.Ytmkcckkjkfmheaa.Al
open Go.RowKit Go.Maps Go.Proofs.Ytmkcckkjkfmheaa.Base Go.Proofs.Ytmkcckkjkfmheaa.Rws Go.Proofs.Ytmkcckkjkfmheaa.Wh Go.Proofs.YtmkcckkjkfmheaaW.PrintWords Go.Proofs.YtmkcckkjkfmheaaW.PrintMore
attribute [local go_sem] max2_mx min2_mn max_two min_two max_three min_three max_four min_four
attribute [local go_sem high] eqK27 eqK33

/-- Laid in its place. -/
def insK (k : K5) (t : Int) : List NT → List NT
  | [] => [(k, t)]
  | p :: L => if LtN k p.1 then (k, t) :: p :: L else p :: insK k t L

def anyL (k : K5) (L : List NT) : Bool := L.any (fun p => decide (LtN k p.1))
def outL (k : K5) (t : Int) (L : List NT) : List NT := if anyL k L = true then insK k t L else L

theorem insK_on {k : K5} {t : Int} {p : NT} : ∀ {L : List NT}, anyL k L = true → insK k t (L ++ [p]) = insK k t L ++ [p]
  | [], h => by cases h
  | q :: L, h => by
    rw [List.cons_append]
    unfold insK
    by_cases hq : LtN k q.1
    · rw [if_pos hq, if_pos hq]; rfl
    · rw [if_neg hq, if_neg hq, List.cons_append, insK_on (L := L) (by simpa [anyL, hq] using h)]

theorem insK_new {k : K5} {t : Int} : ∀ {L : List NT}, anyL k L = false → insK k t L = L ++ [(k, t)]
  | [], h => rfl
  | q :: L, h => by
    have h1 : ¬ LtN k q.1 ∧ anyL k L = false := by simpa [anyL] using h
    unfold insK
    rw [if_neg h1.1, insK_new h1.2]
    rfl

theorem insK_here {k : K5} {t : Int} {p : NT} (hp : LtN k p.1) : ∀ {L : List NT}, anyL k L = false → insK k t (L ++ [p]) = L ++ [(k, t)] ++ [p]
  | [], h => by
    show insK k t [p] = _
    unfold insK
    rw [if_pos hp]
    rfl
  | q :: L, h => by
    have h1 : ¬ LtN k q.1 ∧ anyL k L = false := by simpa [anyL] using h
    rw [List.cons_append]
    unfold insK
    rw [if_neg h1.1, insK_here hp h1.2]
    rfl

theorem anyL_step (k : K5) (L : List NT) (p : NT) : anyL k (L ++ [p]) = (anyL k L || decide (LtN k p.1)) := by simp [anyL, List.any_append]

theorem outL_on {k : K5} {t : Int} {L : List NT} {p : NT} (h : anyL k L = true) : outL k t (L ++ [p]) = outL k t L ++ [p] := by
  unfold outL
  rw [anyL_step, h, Bool.true_or, if_pos rfl, if_pos rfl, insK_on h]
theorem outL_here {k : K5} {t : Int} {L : List NT} {p : NT} (h : anyL k L = false) (hp : LtN k p.1) : outL k t (L ++ [p]) = outL k t L ++ [(k, t)] ++ [p] := by
  unfold outL
  rw [anyL_step, h, Bool.false_or, decide_eq_true hp, if_pos rfl, if_neg (by simp), insK_here hp h]
theorem outL_not {k : K5} {t : Int} {L : List NT} {p : NT} (h : anyL k L = false) (hp : ¬ LtN k p.1) : outL k t (L ++ [p]) = outL k t L ++ [p] := by
  unfold outL
  rw [anyL_step, h, Bool.false_or, decide_eq_false hp, if_neg (by simp), if_neg (by simp)]
theorem outL_len (k : K5) (t : Int) : ∀ L : List NT, (outL k t L).length ≤ L.length + 1 := by
  have h : ∀ L : List NT, (insK k t L).length = L.length + 1 := fun L => by
    induction L with
    | nil => rfl
    | cons q L ih =>
      unfold insK
      split
      · simp
      · simp [ih]
  intro L
  unfold outL
  split
  · rw [h]; exact Nat.le_refl _
  · omega

theorem cfN_lt {x y : K5} : LtN x y ↔ cfN x y < 0 := by
  rcases cfN_cases x y with ⟨h, e⟩ | ⟨h, e⟩ | ⟨h, e⟩
  · rw [e]; exact ⟨fun _ => by decide, fun _ => h⟩
  · rw [e]
    exact ⟨fun h2 => absurd (h.trans h2) (LtN.irrefl _), fun h2 => absurd h2 (by decide)⟩
  · rw [e, h]
    exact ⟨fun h2 => absurd h2 (LtN.irrefl _), fun h2 => absurd h2 (by decide)⟩

set_option maxHeartbeats 32000000 in
theorem rset_p {w : World} {r : Nat} {g now : Int} {v : Value} {R : List NT} (k : K5) (t : Int) (h : RA w r g now v R) (hR : R.length ≤ 1000) :
    Calls Try.prog 37 #[.pointer (some ⟨r, 0, none⟩), k.v, .int .i64 t] w fun e w' => e = .returned (.int .i64 0) ∧ PostA w r g now (insK k (cl t) (cutN k R)) w' := by
  obtain ⟨w1, hw1⟩ : ∃ w1, w1 = w.alloc (boxR k) := ⟨_, rfl⟩
  obtain ⟨N, hN⟩ : ∃ N, N = w.heap.size := ⟨_, rfl⟩
  have hb1 : w1.heap[N]? = some (boxR k) := by rw [hw1, hN]; exact heap_alloc_new w _
  have ho1 : Only (fun _ => False) w w1 := by rw [hw1]; exact (Only.refl _ w).alloc _
  have h1 := h.only ho1 (fun _ _ h => h)
  have HTI := Lib.hid (rtime_p k h1 (Nat.le_trans hR (by decide)))
  have HB1 := Lib.hid hb1
  have HO1 := Lib.hid ho1
  have HR := Lib.hid h1
  have HNR : Hid (N ≠ r) := Lib.hid (by have := blk_lt h.blk; omega)
  obtain ⟨A, c, hv⟩ := h.form
  obtain ⟨M, hM⟩ : ∃ M, M = R.length := ⟨_, rfl⟩
  rw [← hM] at hv
  subst hv
  have HM := Lib.hid hM
  have HRL := Lib.hid hR
  have hMb : ¬ (4096 : Int) ≤ (M : Int) := by omega
  have HCX : Hid (∀ w, Calls Try.prog 14 #[.int .i64 t] w fun e w' => e = .returned (.int .i64 (cl t)) ∧ w' = w) := Lib.hid (fun w => (clampR_p t w).mono fun _ _ h => ⟨h.1, h.2.symm⟩)
  obtain ⟨ct, hct⟩ : ∃ ct, ct = cl t := ⟨_, rfl⟩
  rw [← hct] at HCX ⊢
  have HCR := Lib.hid (fun p w => cmpR_p k p w)
  have HCLE : Hid (∀ w v, RA w r g now v R → _) := Lib.hid (fun w v (h : RA w r g now v R) => rclear_p k h (Nat.le_trans hR (by decide)))
  have hcl := cutN_len k R
  obtain ⟨R3, hR3⟩ : ∃ R3, R3 = cutN k R := ⟨_, rfl⟩
  rw [← hR3] at HCLE hcl ⊢
  have HRL3 : Hid (R3.length ≤ 1000) := Lib.hid (Nat.le_trans hcl hR)
  obtain ⟨⟨a, b', c', d, e⟩, hkk⟩ : ∃ z, z = k := ⟨_, rfl⟩
  have HKK := Lib.hid hkk
  have hwk : w1 = w.alloc (.cells #[.int .i64 a, .int .i64 b', .int .i64 c', .int .i64 d, .int .i64 e] 27) := by rw [hw1, ← hkk]; rfl
  have hkv : k.v = .agg #[.int .i64 a, .int .i64 b', .int .i64 c', .int .i64 d, .int .i64 e] := by rw [← hkk]; rfl
  rw [hkv] at HTI HCR HCLE ⊢
  have HYC : Hid (∀ V : World, V.heap[N]? = some (boxR k) → V.cell? ⟨N, 0, none⟩ = some (.int .i64 a) ∧ V.cell? ⟨N, 1, none⟩ = some (.int .i64 b') ∧ V.cell? ⟨N, 2, none⟩ = some (.int .i64 c') ∧ V.cell? ⟨N, 3, none⟩ = some (.int .i64 d) ∧ V.cell? ⟨N, 4, none⟩ = some (.int .i64 e)) := Lib.hid (fun V hV => by
    rw [← hkk] at hV
    exact boxR_cells hV)
  obtain ⟨⟨tt, ok⟩, hto⟩ : ∃ z, z = tOf R k := ⟨_, rfl⟩
  rw [← hto] at HTI
  simp only at HTI
  obtain ⟨y0, y1, y2, y3, y4⟩ := HYC.out w1 hb1
  clear h h1 hb1 ho1 hR hM hw1 hkk hkv hto hct hR3 hcl
  go_enter Try.func37, Try.ntmps37
  go_upto_region 1 with fail
  rw [← hwk, ← hN]
  clear hwk hN
  go_upto_region 2 with (go_at_call 41; refine HTI.out.mono ?_; rintro en w2 ⟨rfl, ho2⟩; have HO2 := Lib.hid ho2; clear ho2)
  clear y0 y1 y2 y3 y4
  have hra2 := HR.out.only HO2.out (fun _ _ h => h)
  have x0 := hra2.c0
  have HC2 := Lib.hid (HCLE.out _ _ hra2)
  have hb2 := HO2.out.blk HB1.out (fun h => h)
  have HB2 := Lib.hid hb2
  obtain ⟨y0, y1, y2, y3, y4⟩ := HYC.out w2 hb2
  clear hra2 hb2
  cases ok
  all_goals
    go_upto_region 5 with (go_at_call 38; refine HC2.out.mono ?_; rintro en w3 ⟨rfl, v3, hra3, hv3, ho3⟩; have HR3 := Lib.hid hra3; have HV3 := Lib.hid hv3; have HO3 := Lib.hid ho3; clear hra3 hv3 ho3)
    clear y0 y1 y2 y3 y4 x0
    have hb3 := HO3.out.blk HB2.out HNR.out
    obtain ⟨y0, y1, y2, y3, y4⟩ := HYC.out w3 hb3
    have HB3 := Lib.hid hb3
    clear hb3
    go_region_held3 (fun V => V.cell? ⟨N, 0, none⟩ = some (.int .i64 a) ∧ V.cell? ⟨N, 1, none⟩ = some (.int .i64 b') ∧ V.cell? ⟨N, 2, none⟩ = some (.int .i64 c') ∧ V.cell? ⟨N, 3, none⟩ = some (.int .i64 d) ∧ V.cell? ⟨N, 4, none⟩ = some (.int .i64 e)) ((refine HYC.out _ (Only.blk (S := fun _ => False) (w := w3) ?_ HB3.out (fun h => h)); repeat (first | exact Only.refl _ _ | refine Only.drew ?_ | refine Only.alloc ?_ _ | refine Only.setCell ?_ (.inr (Nat.le_refl _)) _))) ((go_at_call 14; refine (HCX.out _).mono ?_; rintro en w' ⟨rfl, rfl⟩))
    all_goals
      obtain ⟨w4, hw4⟩ : ∃ w4, w4 = (w3.alloc (.cells #[.int .i64 a, .int .i64 b', .int .i64 c', .int .i64 d, .int .i64 e, .int .i64 ct] 44)).drew := ⟨_, rfl⟩
      obtain ⟨X, hX⟩ : ∃ X, X = w3.heap.size := ⟨_, rfl⟩
      rw [← hw4, ← hX]
      have ho4 : Only (fun _ => False) w3 w4 := by rw [hw4]; exact ((Only.refl _ w3).alloc _).drew
      have hx4 : w4.heap[X]? = some (.cells #[.int .i64 a, .int .i64 b', .int .i64 c', .int .i64 d, .int .i64 e, .int .i64 ct] 44 (0, 0)) := by rw [hw4, hX]; exact heap_alloc_new w3 _
      have HX4 := Lib.hid hx4
      have HO4 := Lib.hid ho4
      have HB4 := Lib.hid (ho4.blk HB3.out (fun h => h))
      have HR4 := Lib.hid (HR3.out.only ho4 (fun _ _ h => h))
      have HXC : Hid (∀ V, Only (fun _ => False) w4 V → V.cell? ⟨X, 0, none⟩ = some (.int .i64 a) ∧ V.cell? ⟨X, 1, none⟩ = some (.int .i64 b') ∧ V.cell? ⟨X, 2, none⟩ = some (.int .i64 c') ∧ V.cell? ⟨X, 3, none⟩ = some (.int .i64 d) ∧ V.cell? ⟨X, 4, none⟩ = some (.int .i64 e) ∧ V.cell? ⟨X, 5, none⟩ = some (.int .i64 ct)) := Lib.hid (fun V hV => by
        have hb := hV.blk HX4.out (fun h => h)
        exact ⟨cell_at hb 0 rfl, cell_at hb 1 rfl, cell_at hb 2 rfl, cell_at hb 3 rfl, cell_at hb 4 rfl, cell_at hb 5 rfl⟩)
      obtain ⟨A3, c3, hv3⟩ := HR3.out.form
      obtain ⟨M3, hM3⟩ : ∃ M3, M3 = R3.length := ⟨_, rfl⟩
      rw [← hM3] at hv3
      have HM3 := Lib.hid hM3
      have hM3b : M3 ≤ 1000 := by rw [hM3]; exact HRL3.out
      subst hv3
      clear hw4 hX ho4 hx4 hM3 y0 y1 y2 y3 y4 HR3
      go_upto_region 9 with fail
      go_loopw [10, 11, 12] (fun v10 v11 v12 wr => ∃ i : Nat, v12 = .int .i64 (i : Int) ∧ i ≤ M3 ∧ (∃ b, v11 = .bool b ∧ Hid (b = anyL k (R3.take i))) ∧ Hid (Rr wr (fun q => w4.heap.size ≤ q) v10 (outL k ct (R3.take i))) ∧ Hid (Only (fun _ => False) w4 wr)) (fun _ _ v12 _ => M3 - (RowKit.intOf v12).toNat)
      case atStart => exact ⟨0, rfl, Nat.zero_le _, ⟨false, rfl, Lib.hid rfl⟩, Lib.hid (Row.nil _ _ _ _), Lib.hid (Only.refl _ _)⟩
      case round =>
        obtain ⟨i, rfl, hi, ⟨bl, rfl, HBL⟩, HK, HO⟩ := hrel
        have hra := HR4.out.only HO.out (fun _ _ h => h)
        have x0 := hra.c0
        have HRA := Lib.hid hra
        have hgo : i < M3 ∨ i = M3 := by omega
        rcases hgo with hlt | rfl
        · have hlt' : (i : Int) < (M3 : Int) := by omega
          have hio : i < R3.length := by rw [← HM3.out]; exact hlt
          have hge : R3[i]? = some R3[i] := List.getElem?_eq_getElem hio
          obtain ⟨p, hp⟩ : ∃ p, p = R3[i] := ⟨_, rfl⟩
          rw [← hp] at hge
          obtain ⟨q, o, c2, hs, _⟩ := Row.some_ hra.row (by omega)
          injection hs with s1 s2 s3
          subst s1 s3
          have HGE := Lib.hid hge
          have HCL : Hid ((outL k ct (R3.take i)).length ≤ 1001) := Lib.hid (by have := outL_len k ct (R3.take i); rw [List.length_take] at this; omega)
          have HTK : Hid (R3.take (i + 1) = R3.take i ++ [p]) := Lib.hid (by rw [List.take_add_one, hge]; rfl)
          obtain ⟨cc, hcc⟩ : ∃ cc, cc = cfN k p.1 := ⟨_, rfl⟩
          have HCP : Hid (∀ w, _) := Lib.hid (fun w => HCR.out p.1 w)
          rw [← hcc] at HCP
          have HLT : Hid (LtN k p.1 ↔ cc < 0) := Lib.hid (by rw [hcc]; exact cfN_lt)
          have KE : Hid (∀ V, Only (fun _ => False) w4 V → V.cell? ⟨r, 0, none⟩ = some (.slice (some ⟨q, o, none⟩) M3 c3) ∧ At6 V q (o + i * 6) p ∧ V.cell? ⟨N, 0, none⟩ = some (.int .i64 a) ∧ V.cell? ⟨N, 1, none⟩ = some (.int .i64 b') ∧ V.cell? ⟨N, 2, none⟩ = some (.int .i64 c') ∧ V.cell? ⟨N, 3, none⟩ = some (.int .i64 d) ∧ V.cell? ⟨N, 4, none⟩ = some (.int .i64 e)) := Lib.hid (fun V hV => ⟨(HR4.out.only hV (fun _ _ h => h)).c0, Rr.at_ (HR4.out.only hV (fun _ _ h => h)).row HM3.out hge, HYC.out V (hV.blk HB4.out (fun h => h))⟩)
          obtain ⟨⟨pa, pb, pc, pd, pe⟩, pt⟩ := p
          unfold At6 at KE
          unfold K5.v at HCP
          simp only at KE HCP
          clear hge hp hio hra s2 hcc x0
          obtain ⟨x0, ⟨z0, z1, z2, z3, z4, z5⟩, y0, y1, y2, y3, y4⟩ := KE.out wr HO.out
          go_upto_region 11 with fail
          cases bl with
          | true =>
            go_quiet (fail)
            obtain ⟨w5, hw5⟩ : ∃ w5, w5 = wr.drewN nq := ⟨_, rfl⟩
            rw [← hw5]
            have HOd : Hid (Only (fun _ => False) wr w5) := by rw [hw5]; exact Lib.hid ((Only.refl _ wr).drewN _)
            clear hw5 x0 z0 z1 z2 z3 z4 z5 y0 y1 y2 y3 y4
            obtain ⟨x0, ⟨z0, z1, z2, z3, z4, z5⟩, y0, y1, y2, y3, y4⟩ := KE.out w5 (HO.out.trans HOd.out)
            have HK5 := Lib.hid (Row.only HK.out HOd.out (fun _ _ h => h))
            obtain ⟨v6, w6, hr6, k6, o6⟩ := Rr.app HK5.out (fun k hk => by have h1 := HO.out.size; have h2 := HOd.out.size; omega) (Nat.le_trans HCL.out (by decide)) ⟨⟨pa, pb, pc, pd, pe⟩, pt⟩ 41
            unfold boxT at hr6
            have HR6 := Lib.hid hr6
            have HK6 := Lib.hid k6
            have HO6 : Hid (Only (fun _ => False) w4 w6) := Lib.hid ((HO.out.trans HOd.out).then_ o6 (fun q hq => .inr (Row.own HK5.out hq).1))
            clear hr6 k6 o6
            go_wp2_with ((with_reducible refine gate_builtin (b := .append) (xs := #[.tmp 64, .tmp 72]) rfl ?_); at_builtin; go_loud (refine Go.Lib.wpList_append_run_sl _ rfl (.tmp 64) (.tmp 72) 41 rfl _ _ rfl rfl HR6.out ?_))
            go_roundw
            case rel =>
              refine ⟨i + 1, by go_num, by omega, ⟨true, rfl, Lib.hid ?_⟩, Lib.hid ?_, HO6⟩
              · rw [HTK.out, anyL_step, ← HBL.out]; rfl
              · rw [HTK.out, outL_on HBL.out.symm]; exact HK6.out
            case measure => simp [RowKit.intOf]; omega
          | false =>
            by_cases hc0 : cc < 0
            · have hdc : decide (cc < 0) = true := decide_eq_true hc0
              have HLTY : Hid (LtN k ⟨pa, pb, pc, pd, pe⟩) := Lib.hid (HLT.out.2 hc0)
              clear hc0
              go_region_held3 (fun V => V.cell? ⟨r, 0, none⟩ = some (.slice (some ⟨q, o, none⟩) M3 c3) ∧ (V.cell? ⟨q, o + i * 6, none⟩ = some (.int .i64 pa) ∧ V.cell? ⟨q, o + i * 6 + 1, none⟩ = some (.int .i64 pb) ∧ V.cell? ⟨q, o + i * 6 + 2, none⟩ = some (.int .i64 pc) ∧ V.cell? ⟨q, o + i * 6 + 3, none⟩ = some (.int .i64 pd) ∧ V.cell? ⟨q, o + i * 6 + 4, none⟩ = some (.int .i64 pe) ∧ V.cell? ⟨q, o + i * 6 + 5, none⟩ = some (.int .i64 pt)) ∧ V.cell? ⟨N, 0, none⟩ = some (.int .i64 a) ∧ V.cell? ⟨N, 1, none⟩ = some (.int .i64 b') ∧ V.cell? ⟨N, 2, none⟩ = some (.int .i64 c') ∧ V.cell? ⟨N, 3, none⟩ = some (.int .i64 d) ∧ V.cell? ⟨N, 4, none⟩ = some (.int .i64 e)) (first | exact KE.out _ HO.out | exact KE.out _ HO.out.drew | exact KE.out _ (HO.out.trans HOd.out)) ((go_at_call 19; refine (HCP.out _).mono ?_; rintro en w5 ⟨rfl, ho⟩; have HOd : Hid (Only (fun _ => False) wr w5) := Lib.hid (by first | exact ho | exact (Only.refl _ _).drew.trans ho); clear ho))
              clear x0 z0 z1 z2 z3 z4 z5 y0 y1 y2 y3 y4
              obtain ⟨x0, x1, x2, x3, x4, x5⟩ := HXC.out w5 (HO.out.trans HOd.out)
              have HK5 := Lib.hid (Row.only HK.out HOd.out (fun _ _ h => h))
              obtain ⟨v7, w7, hr7, k7, o7⟩ := Rr.app HK5.out (fun k hk => by have h1 := HO.out.size; have h2 := HOd.out.size; omega) (Nat.le_trans HCL.out (by decide)) ⟨⟨a, b', c', d, e⟩, ct⟩ 41
              unfold boxT at hr7
              have HR7 := Lib.hid hr7
              have HK7 := Lib.hid k7
              have HO7 : Hid (Only (fun _ => False) w4 w7) := Lib.hid ((HO.out.trans HOd.out).then_ o7 (fun q hq => .inr (Row.own HK5.out hq).1))
              clear hr7 k7 o7
              go_upto_region 13 with ((with_reducible refine gate_builtin (b := .append) (xs := #[.tmp 60, .tmp 62]) rfl ?_); at_builtin; go_loud (refine Go.Lib.wpList_append_run_sl _ rfl (.tmp 60) (.tmp 62) 41 rfl _ _ rfl rfl HR7.out ?_))
              clear x0 x1 x2 x3 x4 x5
              obtain ⟨x0, ⟨z0, z1, z2, z3, z4, z5⟩, y0, y1, y2, y3, y4⟩ := KE.out w7 HO7.out
              obtain ⟨v6, w6, hr6, k6, o6⟩ := Rr.app HK7.out (fun k hk => by have h1 := HO7.out.size; omega) (by rw [List.length_append, List.length_singleton]; have := HCL.out; omega) ⟨⟨pa, pb, pc, pd, pe⟩, pt⟩ 41
              unfold boxT at hr6
              have HR6 := Lib.hid hr6
              have HK6 := Lib.hid k6
              have HO6 : Hid (Only (fun _ => False) w4 w6) := Lib.hid (HO7.out.then_ o6 (fun q hq => .inr (Row.own HK7.out hq).1))
              clear hr6 k6 o6
              go_wp2_with ((with_reducible refine gate_builtin (b := .append) (xs := #[.tmp 64, .tmp 72]) rfl ?_); at_builtin; go_loud (refine Go.Lib.wpList_append_run_sl _ rfl (.tmp 64) (.tmp 72) 41 rfl _ _ rfl rfl HR6.out ?_))
              go_roundw
              case rel =>
                refine ⟨i + 1, by go_num, by omega, ⟨true, rfl, Lib.hid ?_⟩, Lib.hid ?_, HO6⟩
                · rw [HTK.out, anyL_step, decide_eq_true HLTY.out, Bool.or_true]
                · have h6 := HK6.out
                  rw [HKK.out] at h6
                  rw [HTK.out, outL_here HBL.out.symm HLTY.out]
                  exact h6
              case measure => simp [RowKit.intOf]; omega
            · have hdc : decide (cc < 0) = false := decide_eq_false hc0
              have HLTN : Hid (¬ LtN k ⟨pa, pb, pc, pd, pe⟩) := Lib.hid (fun h => hc0 (HLT.out.1 h))
              clear hc0
              go_region_held3 (fun V => V.cell? ⟨r, 0, none⟩ = some (.slice (some ⟨q, o, none⟩) M3 c3) ∧ (V.cell? ⟨q, o + i * 6, none⟩ = some (.int .i64 pa) ∧ V.cell? ⟨q, o + i * 6 + 1, none⟩ = some (.int .i64 pb) ∧ V.cell? ⟨q, o + i * 6 + 2, none⟩ = some (.int .i64 pc) ∧ V.cell? ⟨q, o + i * 6 + 3, none⟩ = some (.int .i64 pd) ∧ V.cell? ⟨q, o + i * 6 + 4, none⟩ = some (.int .i64 pe) ∧ V.cell? ⟨q, o + i * 6 + 5, none⟩ = some (.int .i64 pt)) ∧ V.cell? ⟨N, 0, none⟩ = some (.int .i64 a) ∧ V.cell? ⟨N, 1, none⟩ = some (.int .i64 b') ∧ V.cell? ⟨N, 2, none⟩ = some (.int .i64 c') ∧ V.cell? ⟨N, 3, none⟩ = some (.int .i64 d) ∧ V.cell? ⟨N, 4, none⟩ = some (.int .i64 e)) (first | exact KE.out _ HO.out | exact KE.out _ HO.out.drew | exact KE.out _ (HO.out.trans HOd.out)) ((go_at_call 19; refine (HCP.out _).mono ?_; rintro en w5 ⟨rfl, ho⟩; have HOd : Hid (Only (fun _ => False) wr w5) := Lib.hid (by first | exact ho | exact (Only.refl _ _).drew.trans ho); clear ho))
              clear x0 z0 z1 z2 z3 z4 z5 y0 y1 y2 y3 y4
              obtain ⟨x0, ⟨z0, z1, z2, z3, z4, z5⟩, y0, y1, y2, y3, y4⟩ := KE.out w5 (HO.out.trans HOd.out)
              have HK5 := Lib.hid (Row.only HK.out HOd.out (fun _ _ h => h))
              obtain ⟨v6, w6, hr6, k6, o6⟩ := Rr.app HK5.out (fun k hk => by have h1 := HO.out.size; have h2 := HOd.out.size; omega) (Nat.le_trans HCL.out (by decide)) ⟨⟨pa, pb, pc, pd, pe⟩, pt⟩ 41
              unfold boxT at hr6
              have HR6 := Lib.hid hr6
              have HK6 := Lib.hid k6
              have HO6 : Hid (Only (fun _ => False) w4 w6) := Lib.hid ((HO.out.trans HOd.out).then_ o6 (fun q hq => .inr (Row.own HK5.out hq).1))
              clear hr6 k6 o6
              go_wp2_with ((with_reducible refine gate_builtin (b := .append) (xs := #[.tmp 64, .tmp 72]) rfl ?_); at_builtin; go_loud (refine Go.Lib.wpList_append_run_sl _ rfl (.tmp 64) (.tmp 72) 41 rfl _ _ rfl rfl HR6.out ?_))
              go_roundw
              case rel =>
                refine ⟨i + 1, by go_num, by omega, ⟨false, rfl, Lib.hid ?_⟩, Lib.hid ?_, HO6⟩
                · rw [HTK.out, anyL_step, decide_eq_false HLTN.out, ← HBL.out]; rfl
                · rw [HTK.out, outL_not HBL.out.symm HLTN.out]; exact HK6.out
              case measure => simp [RowKit.intOf]; omega
        · have hge : ¬ (i : Int) < i := by omega
          have HBF : Hid (bl = anyL k R3) := Lib.hid (by have := HBL.out; rwa [HM3.out, List.take_length] at this)
          have HKF : Hid (Rr wr (fun q => w4.heap.size ≤ q) u10 (outL k ct R3)) := Lib.hid (by have := HK.out; rwa [HM3.out, List.take_length] at this)
          have HSZ : Hid (w.heap.size ≤ w4.heap.size) := Lib.hid (by have h1 := HO1.out.size; have h2 := HO2.out.size; have h3 := HO3.out.size; have h4 := HO4.out.size; omega)
          have HOW : Hid (Only (fun q => q = r) w wr) := Lib.hid ((((HO1.out.trans HO2.out).mono (fun _ h => h.elim)).trans HO3.out).trans ((HO4.out.trans HO.out).mono (fun _ h => h.elim)))
          clear hra hi
          cases bl with
          | true =>
            have HKG : Hid (Rr wr (fun q => w4.heap.size ≤ q) u10 (insK k ct R3)) := Lib.hid (by have := HKF.out; unfold outL at this; rwa [← HBF.out, if_pos rfl] at this)
            have hf0 := HRA.out.frozen 0
            obtain ⟨A7, c7, hv7, _⟩ := Row.form HKG.out
            obtain ⟨m7, hm7⟩ : ∃ m7, m7 = (insK k ct R3).length := ⟨_, rfl⟩
            rw [← hm7] at hv7
            subst hv7
            clear hm7
            go_wp2
            go_ret
            obtain ⟨hs7, ho7⟩ := HRA.out.setVal HKG.out
            exact ⟨rfl, _, hs7, fun q hq => by have h1 := (Row.own HKG.out hq).1; have h2 := HSZ.out; omega, HOW.out.trans ho7⟩
          | false =>
            obtain ⟨x1, x2, x3, x4, x5, x6⟩ := HXC.out wr HO.out
            have HCL : Hid ((outL k ct R3).length ≤ 20000) := Lib.hid (by have := outL_len k ct R3; have := HRL3.out; omega)
            obtain ⟨v7, w7, hr7, k7, o7⟩ := Rr.app HKF.out (fun k hk => by have h1 := HO.out.size; omega) HCL.out ⟨⟨a, b', c', d, e⟩, ct⟩ 41
            unfold boxT at hr7
            have HR7 := Lib.hid hr7
            have HKG : Hid (Rr w7 (fun q => w4.heap.size ≤ q) v7 (insK k ct R3)) := Lib.hid (by
              rw [insK_new HBF.out.symm, ← HKK.out]
              have := k7
              unfold outL at this
              rwa [← HBF.out, if_neg (by simp)] at this)
            have HO7 : Hid (Only (fun q => q = r) w w7) := Lib.hid (HOW.out.then_ o7 (fun q hq => .inr (by have h1 := (Row.own HKF.out hq).1; have h2 := HSZ.out; omega)))
            have HRA7 := Lib.hid (HRA.out.only o7 (fun i hi h => by have h1 := (Row.own HKF.out h).1; have h2 := HR4.out.flt i hi; omega))
            have hf0 := HRA7.out.frozen 0
            have x07 := HRA7.out.c0
            obtain ⟨A7, c7, hv7, _⟩ := Row.form HKG.out
            obtain ⟨m7, hm7⟩ : ∃ m7, m7 = (insK k ct R3).length := ⟨_, rfl⟩
            rw [← hm7] at hv7
            subst hv7
            clear hm7 hr7 k7 o7
            go_wp2_with ((with_reducible refine gate_builtin (b := .append) (xs := #[.tmp 76, .tmp 78]) rfl ?_); at_builtin; go_loud (refine Go.Lib.wpList_append_run_sl _ rfl (.tmp 76) (.tmp 78) 41 rfl _ _ rfl rfl HR7.out ?_))
            go_ret
            obtain ⟨hs7, ho7⟩ := HRA7.out.setVal HKG.out
            exact ⟨rfl, _, hs7, fun q hq => by have h1 := (Row.own HKG.out hq).1; have h2 := HSZ.out; omega, HO7.out.trans ho7⟩
end Go.Proofs.Ytmkcckkjkfmheaa.Al

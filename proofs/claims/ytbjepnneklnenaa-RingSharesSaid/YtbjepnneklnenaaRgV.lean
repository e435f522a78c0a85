/- Ring: New. -/
import Derived.Test.YtbjepnneklnenaaRgU
import Derived.Deep.RegionLaw
import Derived.Lib.SlFresh
set_option linter.unusedVariables false
set_option linter.unusedSimpArgs false
set_option maxRecDepth 100000
namespace Go.Proofs.Ytbjepnneklnenaa.Rg
open Go.RowKit Go.Maps Go.Shelf Go.Lib Go.Sort Go.Proofs.Ytbjepnneklnenaa.Base Go.Proofs.Ytbjepnneklnenaa.Rws Go.Proofs.Ytbjepnneklnenaa.Crc Go.Proofs.YtbjepnneklnenaaW.PrintWords Go.Proofs.YtbjepnneklnenaaW.PrintMore
attribute [local go_sem] max2_mx min2_mn max_two min_two max_three min_three max_four min_four

/-- The operation is a builtin over these places. -/
theorem gate_wp {P : Program} {o : Oper} {a : Act} {w : World} {K : Act → World → Prop} {Q : Exit → Act → World → Prop} {b : Builtin} {xs : Array Operand} {ts : Array TypeId} (_ho : o.op = .call { callee := .builtin b, args := xs, argTypes := ts }) (h : o.wp P a w K Q) : o.wp P a w K Q := h

/-- A member's points. -/
def dots (m : Int) (R : Nat) : List Pt := (List.range R).map (fun n : Nat => ⟨pos m (n : Int), m, (n : Int)⟩)
/-- All points. -/
def pts (M : List Int) (R : Nat) : List Pt := M.flatMap (fun m => dots m R)

theorem dots_len (m : Int) (R : Nat) : (dots m R).length = R := by simp [dots]
theorem dots_succ (m : Int) (n : Nat) : dots m (n + 1) = dots m n ++ [⟨pos m (n : Int), m, (n : Int)⟩] := by simp [dots, List.range_succ]
theorem pts_len : ∀ (M : List Int) (R : Nat), (pts M R).length = M.length * R
  | [], R => by simp [pts]
  | m :: M, R => by
    have := pts_len M R
    unfold pts at *
    rw [List.flatMap_cons, List.length_append, this, dots_len, List.length_cons, Nat.succ_mul, Nat.add_comm]
theorem pts_succ (M : List Int) (i : Nat) (m : Int) (R : Nat) (h : M[i]? = some m) : pts (M.take (i + 1)) R = pts (M.take i) R ++ dots m R := by
  unfold pts
  rw [List.take_add_one, h, Option.toList_some, List.flatMap_append]
  simp

theorem Row.apart {sz sz' : Nat} {e e' : TypeId} {w : World} {P P' : Nat → Prop} {v v' : Value} {n n' : Nat} {xs xs' : List Value} (h : Row sz e w P v n xs) (h' : Row sz' e' w P' v' n' xs') (he : e ≠ e') {k : Nat} (hk : v.ownBlock = some k) : v'.ownBlock ≠ some k := by
  rcases h with ⟨rfl, _⟩ | ⟨q, o, c, cells, rfl, _, hh, _⟩
  · simp [Value.ownBlock] at hk
  · simp [Value.ownBlock] at hk
    subst hk
    exact Row.ne h' hh he

/-- A ring at g. -/
structure RG (w : World) (g : Nat) (Q : Nat → Prop) (v1 v2 : Value) (M : List Int) (P : List Pt) : Prop where
  blk : w.heap[g]? = some (.cells #[v1, v2] 50 (0, 0))
  own : Q g
  ms : Ks w Q v1 M
  ps : Ps w Q v2 P

theorem RG.only {w w' : World} {g : Nat} {Q : Nat → Prop} {v1 v2 : Value} {M : List Int} {P : List Pt} {S : Nat → Prop} (h : RG w g Q v1 v2 M P) (ho : Only S w w') (hs : ∀ i, i < w.heap.size → Q i → ¬ S i) : RG w' g Q v1 v2 M P where
  blk := ho.blk h.blk (hs _ (blk_lt h.blk) h.own)
  own := h.own
  ms := Row.only h.ms ho (fun q hq => hs q (Row.own h.ms hq).2 (Row.own h.ms hq).1)
  ps := Row.only h.ps ho (fun q hq => hs q (Row.own h.ps hq).2 (Row.own h.ps hq).1)

theorem RG.far {w w0 w' : World} {g : Nat} {Q : Nat → Prop} {v1 v2 : Value} {M : List Int} {P : List Pt} {S : Nat → Prop} (h : RG w0 g Q v1 v2 M P) (h2 : RG w g Q v1 v2 M P) (ho : Only S w w') (hs : ∀ i, S i → w0.heap.size ≤ i) : RG w' g Q v1 v2 M P where
  blk := ho.blk h2.blk (fun k => by have := hs _ k; have := blk_lt h.blk; omega)
  own := h.own
  ms := Row.only h2.ms ho (fun q hq k => by have := hs _ k; have := (Row.own h.ms hq).2; omega)
  ps := Row.only h2.ps ho (fun q hq k => by have := hs _ k; have := (Row.own h.ps hq).2; omega)

theorem RG.put {w w1 : World} {g : Nat} {Q : Nat → Prop} {v1 v2 v2' : Value} {M : List Int} {P P' : List Pt} (h : RG w g Q v1 v2 M P) (ho : Only (fun k => v2.ownBlock = some k) w w1) (hp : Ps w1 Q v2' P') : RG (w1.setCell ⟨g, 1, none⟩ v2') g Q v1 v2' M P' := by
  have hb : w1.heap[g]? = some (.cells #[v1, v2] 50 (0, 0)) := ho.blk h.blk (Row.ne h.ps h.blk (by decide))
  have hm : Ks w1 Q v1 M := Row.only h.ms ho (fun k hk => Row.apart h.ms h.ps (by decide) hk)
  have hk : ∀ i, i ≠ g → (w1.setCell ⟨g, 1, none⟩ v2').heap[i]? = w1.heap[i]? := fun i hi => Below.heap_setCell w1 ⟨g, 1, none⟩ v2' i hi
  refine ⟨?_, h.own, Row.keep hm (fun q hq _ => hk q (fun e => Row.ne hm hb (by decide) (by rw [hq, e]))), Row.keep hp (fun q hq _ => hk q (fun e => Row.ne hp hb (by decide) (by rw [hq, e])))⟩
  exact blk_set hb 1 v2'

set_option maxHeartbeats 4000000 in
/-- A ring. -/
theorem new_ring (A : Option Addr) (cap : Nat) (l : List Int) (R : Nat) (w : World) (h1 : 1 ≤ R) (h2 : R ≤ 32) (h3 : l.length ≤ 64) (hr : Rd w A l) (hb : l.any bad = false) (hml : ∀ m ∈ l, 0 ≤ m ∧ m ≤ 63) (ht : (Lib.compact (srt l)).length = l.length) :
    Calls Try.prog 8 #[.slice A l.length cap, .int .i64 (R : Int)] w fun e w' => ∃ g v1 v2, e = .returned (.tuple #[.pointer (some ⟨g, 0, none⟩), .int .i64 0]) ∧ RG w' g (fun k => w.heap.size ≤ k) v1 v2 (srt l) (sortP (pts (srt l) R)) ∧ Only (fun _ => False) w w' := by
  have HC := Lib.hid (contains_p A cap l w (by omega) hr)
  rw [hb] at HC
  have hsl : (srt l).length = l.length := List.length_mergeSort _
  have HSO : Hid (∀ w1, Only (fun _ => False) w w1 → Calls Try.prog 17 #[.func (.func 32) #[] #[.pointer (some ⟨w1.heap.size, 0, none⟩)]] (w1.alloc (.cells #[.slice A l.length cap] 22)) fun e w' => ∃ A1 c1, e = .returned (.slice A1 l.length c1) ∧ Ks w' (fun k => w1.heap.size < k) (.slice A1 l.length c1) (srt l) ∧ Only (fun _ => False) w1 w') := Lib.hid (fun w1 ho => by
    have hro : Rd (w1.alloc (.cells #[.slice A l.length cap] 22)) A l := hr.only (ho.alloc _)
    refine (sorted_p w1.heap.size cap A l (by omega) _ (cell_at (heap_alloc_new w1 _) 0 rfl) hro).mono ?_
    rintro e w' ⟨v, he, hk, ho2⟩
    have hsz : (w1.alloc (.cells #[.slice A l.length cap] 22)).heap.size = w1.heap.size + 1 := by show (w1.heap.push _).size = _; simp
    rw [hsz] at hk
    have hk2 : Ks w' (fun k => w1.heap.size < k) v (srt l) := Row.to hk (fun k hk2 => (Row.own hk hk2).1)
    obtain ⟨A1, c1, hv, _⟩ := Row.form hk2
    rw [hsl] at hv
    subst hv
    exact ⟨A1, c1, he, hk2, ((Only.refl _ w1).alloc _).trans ho2⟩)
  obtain ⟨n, hn⟩ : ∃ n, n = l.length := ⟨_, rfl⟩
  have HCL : Hid (∀ (w1 : World) (P : Nat → Prop) (v : Value), Ks w1 P v (srt l) → Calls Try.prog 20 #[v] w1 fun e w' => ∃ v', e = .returned v' ∧ Ks w' (fun k => w1.heap.size ≤ k) v' (srt l) ∧ Only (fun _ => False) w1 w') := Lib.hid (fun w1 P v hk => clone_p hk (by omega))
  have HCP : Hid (∀ (w1 : World) (P : Nat → Prop) (v : Value), Ks w1 P v (srt l) → Calls Try.prog 19 #[v] w1 fun e w' => (∃ A c, e = .returned (.slice A (Lib.compact (srt l)).length c)) ∧ Only (fun k => v.ownBlock = some k) w1 w') := Lib.hid (fun w1 P v hk => compact_p hk (by omega))
  rw [← hn] at HC HSO h3 ht ⊢
  obtain ⟨m, hm⟩ : ∃ m, m = (Lib.compact (srt l)).length := ⟨_, rfl⟩
  rw [← hm] at HCP ht
  have hme : (m : Int) = (n : Int) := by rw [ht]
  have hmb : m ≤ 64 := by have := compact_length_le (srt l); omega
  have g1 : ¬ (R : Int) < 1 := by omega
  have g2 : ¬ 32 < (R : Int) := by omega
  have g3 : ¬ (64 : Int) < (n : Int) := by omega
  have HSLB : Hid (∀ m ∈ srt l, 0 ≤ m ∧ m ≤ 63) := Lib.hid (fun m hm2 => hml m ((List.mergeSort_perm _ _).mem_iff.1 hm2))
  have HSL : Hid ((srt l).length = n) := Lib.hid (by rw [hsl, hn])
  have HR2 := Lib.hid h2
  obtain ⟨sl, hsl2⟩ : ∃ sl, sl = srt l := ⟨_, rfl⟩
  rw [← hsl2] at HSO HCL HCP HSLB HSL ⊢
  clear hr hb hn h1 h2 hm ht hsl hsl2 hml
  go_enter Try.func8, Try.ntmps8
  go_upto_region 6 with (first
    | (go_at_call 15; refine HC.out.mono ?_; rintro e w1 ⟨rfl, ho⟩; have HO := Lib.hid ho; clear ho)
    | (go_at_call 18; refine (values_p _ _ _ _).mono ?_; rintro e w' ⟨rfl, rfl⟩)
    | (go_at_call 17; refine (HSO.out _ HO.out).mono ?_; rintro e w2 ⟨A1, c1, rfl, hk, ho⟩; have HK := Lib.hid hk; have HO2 := Lib.hid (HO.out.trans ho); clear hk ho))
  obtain ⟨w3, hw3⟩ : ∃ w3, w3 = w2.alloc (.cells #[.slice A1 n c1, .slice none 0 0] 50) := ⟨_, rfl⟩
  obtain ⟨g, hg⟩ : ∃ g, g = w2.heap.size := ⟨_, rfl⟩
  rw [← hw3, ← hg]
  have hk3 : w3.heap[g]? = some (.cells #[.slice A1 n c1, .slice none 0 0] 50 (0, 0)) := by rw [hw3, hg]; exact heap_alloc_new w2 _
  have x0 : w3.cell? ⟨g, 0, none⟩ = some (.slice A1 n c1) := cell_at hk3 0 rfl
  have HRG3 : Hid (RG w3 g (fun k => w.heap.size ≤ k) (.slice A1 n c1) (.slice none 0 0) sl []) := Lib.hid ⟨hk3, by rw [hg]; exact HO2.out.size, Row.to (Row.keep HK.out (fun q hq hlt => by rw [hw3]; exact heap_alloc_old w2 _ _ hlt)) (fun k hk => by have := (Row.own HK.out hk).1; have := HO.out.size; omega), Row.nil _ _ _ _⟩
  have HO3 : Hid (Only (fun _ => False) w w3) := Lib.hid (by rw [hw3]; exact HO2.out.alloc _)
  have HK3 : Hid (Ks w3 (fun k => w1.heap.size < k) (.slice A1 n c1) sl) := Lib.hid (Row.keep HK.out (fun q hq hlt => by rw [hw3]; exact heap_alloc_old w2 _ _ hlt))
  clear hk3 hw3 hg
  go_upto_region 8 with (first
    | (go_at_call 20; refine (HCL.out _ _ _ HK3.out).mono ?_; rintro e w4 ⟨v', rfl, hk4, ho4⟩; have HK4 := Lib.hid hk4; have HO4 := Lib.hid (HO3.out.trans ho4); have HRG4 := Lib.hid (HRG3.out.only ho4 (fun _ _ _ h => h)); have HW3 : Hid (w.heap.size ≤ w3.heap.size) := Lib.hid HO3.out.size; clear hk4 ho4)
    | (go_at_call 19; refine (HCP.out _ _ _ HK4.out).mono ?_; rintro e w5 ⟨⟨A5, c5, rfl⟩, ho5⟩; have HO5 : Hid (Only (fun _ => False) w w5) := Lib.hid (HO4.out.then_ ho5 (fun q hq => .inr (by have := (Row.own HK4.out hq).1; have := HW3.out; omega))); have HRG5 := Lib.hid (HRG3.out.far HRG4.out ho5 (fun q hq => (Row.own HK4.out hq).1)); clear ho5))
  have y0 : w5.cell? ⟨g, 0, none⟩ = some (.slice A1 n c1) := cell_at HRG5.out.blk 0 rfl
  clear x0 HK3 HK4 HRG3 HRG4 HO3 HO4 HCL HCP HC HK HO2 HO HW3 HSO
  go_upto_region 9 with fail
  clear y0
  go_loopw [43, 8, 9] (fun v43 _ _ wr => ∃ (i : Nat) (v2 : Value), v43 = .int .i64 (i : Int) ∧ i ≤ n ∧ Hid (RG wr g (fun k => w.heap.size ≤ k) (.slice A1 n c1) v2 sl (pts (sl.take i) R)) ∧ Hid (Only (fun _ => False) w wr)) (fun v43 _ _ _ => n - (RowKit.intOf v43).toNat)
  case atStart => exact ⟨0, _, rfl, Nat.zero_le _, HRG5, HO5⟩
  case round =>
    obtain ⟨i, v2, rfl, hi, HRG, HO⟩ := hrel
    have hgo : i < n ∨ i = n := by omega
    rcases hgo with hlt | rfl
    · have hlt' : (i : Int) < (n : Int) := by omega
      obtain ⟨m0, hm0⟩ : ∃ m0, sl[i]? = some m0 := ⟨_, List.getElem?_eq_getElem (by rw [HSL.out]; exact hlt)⟩
      have HM0 : Hid (0 ≤ m0 ∧ m0 ≤ 63) := Lib.hid (HSLB.out m0 (List.mem_of_getElem? hm0))
      have hms := HRG.out.ms
      have hks : Row 1 3 wr (fun k => w.heap.size ≤ k) (.slice A1 n c1) n (sl.map (Value.int .i64)) := by unfold Ks at hms; rwa [HSL.out] at hms
      obtain ⟨q2, o2, c2, he, hcc⟩ := Row.some_ hks (by omega)
      injection he with e1 e2 e3
      subst e1 e3
      have hx0 : wr.cell? ⟨q2, o2 + i, none⟩ = some (.int .i64 m0) := Row.cell hks i (by rw [List.getElem?_map, hm0]; rfl)
      have HPS : Hid (pts (sl.take (i + 1)) R = pts (sl.take i) R ++ dots m0 R) := Lib.hid (pts_succ sl i m0 R hm0)
      clear hm0 hms hks hcc
      go_upto_region 12 with fail
      clear hx0
      obtain ⟨wo, rfl⟩ : ∃ wo : World, wo = wr := ⟨_, rfl⟩
      go_loopw [48, 9] (fun v48 _ wr => ∃ (j : Nat) (v3 : Value), v48 = .int .i64 (j : Int) ∧ j ≤ R ∧ Hid (RG wr g (fun k => w.heap.size ≤ k) (.slice (some ⟨q2, o2, none⟩) n c1) v3 sl (pts (sl.take i) R ++ dots m0 j)) ∧ Hid (Only (fun _ => False) w wr)) (fun v48 _ _ => R - (RowKit.intOf v48).toNat)
      case atStart => exact ⟨0, _, rfl, Nat.zero_le _, Lib.hid (by have := HRG.out; rwa [show dots m0 0 = [] from rfl, List.append_nil]), HO⟩
      case round =>
        clear HRG HO
        obtain ⟨j, v3, rfl, hj, HRG, HO⟩ := hrel
        have hgo : j < R ∨ j = R := by omega
        rcases hgo with hlt2 | rfl
        · have hlt2' : (j : Int) < (R : Int) := by omega
          have hjb : (j : Int) ≤ 31 := by have := HR2.out; omega
          have HNM := Lib.hid (fun w => num_p m0 HM0.out.1 (by have := HM0.out.2; omega) w)
          have HNJ := Lib.hid (fun w => num_p (j : Int) (by omega) (by omega) w)
          have hz : (b1 m0 ++ b1 (j : Int)).size = 2 := by rw [ByteArray.size_append, b1_size, b1_size]
          have HSM := Lib.hid (fun w => crc_p (b1 m0 ++ b1 (j : Int)) w (by omega))
          have hss : (b1 m0).size + (b1 (j : Int)).size ≤ 9223372036854775807 := by rw [b1_size, b1_size]; omega
          rw [show sumZ (b1 m0 ++ b1 (j : Int)) = pos m0 (j : Int) from rfl] at HSM
          obtain ⟨p0, hp0⟩ : ∃ p0, p0 = pos m0 (j : Int) := ⟨_, rfl⟩
          have HDS : Hid (dots m0 (j + 1) = dots m0 j ++ [⟨p0, m0, (j : Int)⟩]) := Lib.hid (by rw [hp0]; exact dots_succ m0 j)
          rw [← hp0] at HSM
          obtain ⟨sm, hsm⟩ : ∃ sm, sm = b1 m0 := ⟨_, rfl⟩
          obtain ⟨sj, hsj⟩ : ∃ sj, sj = b1 (j : Int) := ⟨_, rfl⟩
          rw [← hsm, ← hsj] at HSM hss
          rw [← hsm] at HNM
          rw [← hsj] at HNJ
          have hss2 : (9223372036854775807 < sm.size + sj.size) = False := eq_false (Nat.not_lt.2 hss)
          have HPL : Hid ((pts (sl.take i) R ++ dots m0 j).length ≤ 20000) := Lib.hid (by
            rw [List.length_append, pts_len, dots_len, List.length_take]
            have h1 : min i sl.length * R ≤ 64 * 32 := Nat.mul_le_mul (by omega) HR2.out
            have := HR2.out
            omega)
          obtain ⟨A3, c3, hv3, _⟩ := Row.form HRG.out.ps
          obtain ⟨k3, hk3⟩ : ∃ k3, k3 = (pts (sl.take i) R ++ dots m0 j).length := ⟨_, rfl⟩
          rw [← hk3] at hv3
          subst hv3
          have KE : Hid (∀ w', Only (fun _ => False) wr w' → w'.cell? ⟨g, 1, none⟩ = some (.slice A3 k3 c3)) := Lib.hid (fun w' h => cell_at (h.blk HRG.out.blk (fun h => h)) 1 rfl)
          have HOc : Hid (Only (fun _ => False) wr wr) := Lib.hid (Only.refl _ _)
          have hy1 : wr.cell? ⟨g, 1, none⟩ = some (.slice A3 k3 c3) := KE.out _ HOc.out
          clear hp0 hsm hsj hz hk3
          go_wp2_with fail
          go_region_law (first
            | (rw [if_pos (by rfl)]; (with_reducible refine gate_wp (b := .append) (xs := #[.tmp 55, .tmp 65]) rfl ?_); refine Go.Lib.wp_append_run_sl _ (.tmp 55) (.tmp 65) 48 rfl _ _ rfl rfl HRR.out ?_)
            | (go_simp; go_at_call 22; (first | (with_reducible refine (HNM.out _).mono ?_) | (with_reducible refine (HNJ.out _).mono ?_)); rintro e w' ⟨rfl, ho⟩; have HOd : Hid (Only (fun _ => False) wr w') := Lib.hid (by first | exact HOc.out.trans ho | exact HOc.out.drew.trans ho); have hyn := KE.out _ HOd.out; clear ho HOc; have HOc := HOd; clear HOd)
            | (go_simp; go_at_call 21; (with_reducible refine (HSM.out _).mono ?_); rintro e w7 ⟨rfl, ho⟩
               have HOd : Hid (Only (fun _ => False) wr w7) := Lib.hid (HOc.out.trans ho)
               clear ho HOc
               have HOc := HOd
               clear HOd
               have hy7 := KE.out _ HOc.out
               have hy7a := KE.out _ (HOc.out.alloc (.cells #[.int .u16 p0, .int .i64 m0, .int .i64 (j : Int)] 56))
               have hrg7 := HRG.out.only HOc.out (fun _ _ _ h => h)
               obtain ⟨v4, w8, hr8, hp8, ho8⟩ := Ps.app hrg7.ps (fun k hk => by have := HO.out.size; have := HOc.out.size; omega) HPL.out ⟨p0, m0, (j : Int)⟩ 48
               have hrg8 := hrg7.put ho8 hp8
               have hb8 : w8.heap[g]? = some (.cells #[.slice (some ⟨q2, o2, none⟩) n c1, .slice A3 k3 c3] 50 (0, 0)) := ho8.blk hrg7.blk (Row.ne hrg7.ps hrg7.blk (by decide))
               obtain ⟨A4, c4, hv4, _⟩ := Row.form hp8
               obtain ⟨k4, hk4⟩ : ∃ k4, k4 = ((pts (sl.take i) R ++ dots m0 j) ++ [(⟨p0, m0, (j : Int)⟩ : Pt)]).length := ⟨_, rfl⟩
               rw [← hk4] at hv4
               subst hv4
               have HO8 : Hid (Only (fun _ => False) w w8) := Lib.hid ((HO.out.trans HOc.out).then_ ho8 (fun q hq => .inr (Row.own hrg7.ps hq).1))
               have hf8 : w8.frozen? ⟨g, 1, none⟩ = false := blk_frozen hb8 1
               have KE8 : Hid (w8.cell? ⟨g, 1, none⟩ = some (.slice A3 k3 c3)) := Lib.hid (cell_at hb8 1 rfl)
               have hy8 := KE8.out
               have HRG8 := Lib.hid hrg8
               have HRR := Lib.hid hr8
               clear hrg7 hr8 hp8 ho8 hrg8 hb8 hk4))
          all_goals
            go_wp2
            go_roundw
            case rel => exact ⟨j + 1, _, by go_num, by omega, Lib.hid (by have := HRG8.out; rwa [List.append_assoc, ← HDS.out] at this), Lib.hid (HO8.out.setCell (.inr HRG.out.own) _)⟩
            case measure => simp [RowKit.intOf]; omega
        · have hge : ¬ (j : Int) < j := by omega
          go_wp2
          go_roundw
          case rel => exact ⟨i + 1, _, by go_num, by omega, Lib.hid (by rw [HPS.out]; exact HRG.out), HO⟩
          case measure => simp [RowKit.intOf]; omega
    · have hge : ¬ (i : Int) < i := by omega
      have hrg := HRG.out
      rw [show sl.take i = sl by rw [← HSL.out, List.take_length]] at hrg
      have HSP := Lib.hid (sortPts_p hrg.ps (by
        rw [pts_len]
        have h1 : sl.length * R ≤ 64 * 32 := Nat.mul_le_mul (by rw [HSL.out]; omega) HR2.out
        omega))
      have z1 : wr.cell? ⟨g, 1, none⟩ = some v2 := cell_at hrg.blk 1 rfl
      have HRG2 := Lib.hid hrg
      clear hrg
      go_wp2_with (go_at_call 23; refine HSP.out.mono ?_; rintro e w9 ⟨rfl, out', hk9, rfl, ho9⟩; have HK9 := Lib.hid hk9; have HO9 := Lib.hid ho9; clear hk9 ho9)
      go_ret2
      refine ⟨g, _, v2, rfl, ⟨HO9.out.blk HRG2.out.blk (Row.ne HRG2.out.ps HRG2.out.blk (by decide)), HRG2.out.own, Row.only HRG2.out.ms HO9.out (fun k hk => ?_), HK9.out⟩, HO.out.then_ HO9.out (fun q hq => .inr (Row.own HRG2.out.ps hq).1)⟩
      exact Row.apart HRG2.out.ms HRG2.out.ps (by decide) hk
end Go.Proofs.Ytbjepnneklnenaa.Rg

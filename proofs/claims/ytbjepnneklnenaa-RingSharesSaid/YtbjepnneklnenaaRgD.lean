/- Ring: of any members the ring, and of any key the owner. -/
import Derived.Test.YtbjepnneklnenaaRgC
set_option linter.unusedVariables false
set_option linter.unusedSimpArgs false
set_option maxRecDepth 100000
namespace Go.Proofs.Ytbjepnneklnenaa.Rg
open Go.RowKit Go.Maps Go.Shelf Go.Lib Go.Sort Go.Proofs.Ytbjepnneklnenaa.Base Go.Proofs.Ytbjepnneklnenaa.Rws Go.Proofs.Ytbjepnneklnenaa.Crc Go.Proofs.YtbjepnneklnenaaW.PrintWords Go.Proofs.YtbjepnneklnenaaW.PrintMore
open Go.Proofs.Ytbjepnneklnenaa.PR (hourglassref42_Wrong.calls hourglassref42_Owner.calls)
attribute [local go_sem] max2_mx min2_mn max_two min_two max_three min_three max_four min_four

abbrev KI : Kd Int := Kd.int .i64

theorem rd_C {w : World} {A : Option Addr} {l : List Int} (h : Kd.C KI w A l.length l) : Rd w A l := fun j x hx => by
  have hlt := (List.getElem?_eq_some_iff.1 hx).1
  obtain ⟨ad, rfl, hc⟩ := Kd.at_int h (j : Int) (by omega) (by omega)
  refine ⟨ad, rfl, ?_⟩
  have hc' : w.cell? (ad.add j) = some (.int .i64 (rd l (j : Int))) := hc
  rw [rd_get hx] at hc'
  exact hc'

theorem below_of {w w' : World} (h : Only (fun _ => False) w w') : Below w.heap.size w w' := h.below (Below.refl _ _) (Nat.le_refl _) (fun _ k => k.elim)

theorem wrong_p {w : World} {A : Option Addr} {c : Nat} {l : List Int} (h : Kd.C KI w A l.length l) (hc : l.length ≤ c) (hl : l.length ≤ 100) (R : Int) :
    Calls Try.prog 9 #[.slice A l.length c, .int .i64 R] w fun e w' => e = .returned (.int .i64 (wr l R)) ∧ Only (fun _ => False) w w' := by
  refine (hourglassref42_Wrong.calls 20000 A c l R (wr l R) w h hc (by have := wrong_f l hl R 0; rwa [Nat.zero_add] at this)).mono ?_
  rintro e w' ⟨rfl, ⟨n, rfl⟩⟩
  exact ⟨rfl, (Only.refl _ w).drewN n⟩

theorem docO_p {w : World} {A : Option Addr} {c : Nat} {l : List Int} (h : Kd.C KI w A l.length l) (hc : l.length ≤ c) (hl : l.length ≤ 64) (R : Nat) (hR : R ≤ 32) (hm : ∀ m ∈ l, 0 ≤ m ∧ m ≤ 63) (key : ByteArray) (hk : key.size ≤ 5000) :
    Calls Try.prog 11 #[.slice A l.length c, .int .i64 (R : Int), .string key] w fun e w' => e = .returned (.int .i64 (docO l R (sumZ key))) ∧ Only (fun _ => False) w w' := by
  refine (hourglassref42_Owner.calls 60000 A c l (R : Int) key (docO l R (sumZ key)) w h hc (by have := owner_f l R key (by omega) hR (fun m hm' => by have := hm m hm'; omega) hk 0; rwa [Nat.zero_add] at this)).mono ?_
  rintro e w' ⟨rfl, hb⟩
  exact ⟨rfl, Only.of_below hb⟩

set_option maxHeartbeats 4000000 in
theorem owners_walk (l : List Int) (A : Option Addr) (c : Nat) (R : Int) (key : ByteArray) (w : World) (hC : Kd.C KI w A l.length l) (hc : l.length ≤ c) :
    Calls Try.prog 3 #[.slice A l.length c, .int .i64 R, .string key] w fun e w' => e = .returned (.bool true) ∧ Below w.heap.size w w' := by
  have HA : Hid (∀ w, Calls Try.prog 7 #[] w fun e w' => e = .returned (.bool true) ∧ Only (fun _ => False) w w') := Lib.hid awake_p
  by_cases hbig : 70 < l.length ∨ 200 < key.size
  · obtain ⟨n, hn⟩ : ∃ n, n = l.length := ⟨_, rfl⟩
    rw [← hn] at hbig ⊢
    clear hC hc hn
    by_cases h1 : 70 < n
    · have h1' : (70 : Int) < (n : Int) := by omega
      clear hbig
      go_enter Try.func3, Try.ntmps3
      go_wp2_with (go_at_call 7; refine (HA.out _).mono ?_; rintro e w1 ⟨rfl, ho⟩; have HO := Lib.hid ho; clear ho)
      go_ret
      exact ⟨rfl, below_of HO.out⟩
    · have h1' : ¬ (70 : Int) < (n : Int) := by omega
      have h2 : 200 < key.size := by omega
      have h2' : (200 : Int) < (key.size : Int) := by omega
      clear hbig
      go_enter Try.func3, Try.ntmps3
      go_wp2_with (go_at_call 7; refine (HA.out _).mono ?_; rintro e w1 ⟨rfl, ho⟩; have HO := Lib.hid ho; clear ho)
      go_ret
      exact ⟨rfl, below_of HO.out⟩
  · have hl : l.length ≤ 70 := by omega
    have hk : key.size ≤ 200 := by omega
    have HW : Hid (∀ w1, Only (fun _ => False) w w1 → Calls Try.prog 9 #[.slice A l.length c, .int .i64 R] w1 fun e w' => e = .returned (.int .i64 (wr l R)) ∧ Only (fun _ => False) w1 w') := Lib.hid (fun w1 ho => wrong_p (Kd.C_below hC (below_of ho)) hc (by omega) R)
    have hrd := rd_C hC
    by_cases hz : wr l R = 0
    · obtain ⟨h1, h2, h3, h4, h5⟩ := wr_zero hz
      obtain ⟨r, rfl⟩ : ∃ r : Nat, R = (r : Int) := ⟨R.toNat, by omega⟩
      have HN := Lib.hid (new_may A c l r w hrd hz)
      have HD : Hid (∀ w1, Only (fun _ => False) w w1 → Calls Try.prog 11 #[.slice A l.length c, .int .i64 (r : Int), .string key] w1 fun e w' => e = .returned (.int .i64 (docO l r (sumZ key))) ∧ Only (fun _ => False) w1 w') := Lib.hid (fun w1 ho => docO_p (Kd.C_below hC (below_of ho)) hc h3 r (by omega) (bad_no h4) key (by omega))
      have HPN : Hid (∀ (w2 : World) (g : Nat) (Q : Nat → Prop) (v1 v2 : Value), RG w2 g Q v1 v2 (srt l) (sortP (pts (srt l) r)) → Calls Try.prog 12 #[.pointer (some ⟨g, 0, none⟩)] w2 fun e w' => e = .returned (.int .i64 ((l.length * r : Nat) : Int)) ∧ w2 = w') := Lib.hid (fun w2 g Q v1 v2 h => by
        have := points_p h
        rw [sorted_len] at this
        exact this)
      rw [hz] at HW
      by_cases h0 : l.length = 0
      · have HOW : Hid (∀ (w2 : World) (g : Nat) (Q : Nat → Prop) (v1 v2 : Value), RG w2 g Q v1 v2 (srt l) (sortP (pts (srt l) r)) → Calls Try.prog 10 #[.pointer (some ⟨g, 0, none⟩), .string key] w2 fun e w' => e = .returned (.tuple #[.int .i64 0, .bool false]) ∧ w2 = w') := Lib.hid (fun w2 g Q v1 v2 h => own_none h h0 key)
        have hdo : docO l r (sumZ key) = -1 := docO_none (by rw [List.length_eq_zero_iff.1 h0]; rfl)
        rw [hdo] at HD
        rw [h0, Nat.zero_mul] at HPN
        rw [h0] at HN HW HD ⊢
        have g1 : ¬ (200 : Int) < (key.size : Int) := by omega
        obtain ⟨ks, hks⟩ : ∃ ks, ks = key.size := ⟨_, rfl⟩
        clear hC hc hrd hz h1 h2 h3 h4 h5 hdo h0 hl hbig
        go_enter Try.func3, Try.ntmps3
        go_wp2_with (first
          | (go_at_call 8; refine HN.out.mono ?_; rintro e w1 ⟨g, v1, v2, rfl, hrg, ho⟩; have HRG := Lib.hid hrg; have HO := Lib.hid ho; clear hrg ho)
          | (go_at_call 9; refine (HW.out _ HO.out).mono ?_; rintro e w2 ⟨rfl, ho⟩; have HRH := Lib.hid (HRG.out.only ho (fun _ _ _ h => h)); have HO2 := Lib.hid (HO.out.trans ho); clear ho HRG HO; have HRG := HRH; have HO := HO2; clear HRH HO2)
          | (go_at_call 10; refine (HOW.out _ _ _ _ _ HRG.out).mono ?_; rintro e w' ⟨rfl, rfl⟩)
          | (go_at_call 11; refine (HD.out _ HO.out).mono ?_; rintro e w2 ⟨rfl, ho⟩; have HRH := Lib.hid (HRG.out.only ho (fun _ _ _ h => h)); have HO2 := Lib.hid (HO.out.trans ho); clear ho HRG HO; have HRG := HRH; have HO := HO2; clear HRH HO2)
          | (go_at_call 12; refine (HPN.out _ _ _ _ _ HRG.out).mono ?_; rintro e w' ⟨rfl, rfl⟩)
          | (go_at_call 7; refine (HA.out _).mono ?_; rintro e w2 ⟨rfl, ho⟩; have HO2 := Lib.hid (HO.out.trans ho); clear ho HO; have HO := HO2; clear HO2))
        go_ret
        exact ⟨rfl, below_of HO.out⟩
      · have HOW : Hid (∀ (w2 : World) (g : Nat) (Q : Nat → Prop) (v1 v2 : Value), RG w2 g Q v1 v2 (srt l) (sortP (pts (srt l) r)) → Calls Try.prog 10 #[.pointer (some ⟨g, 0, none⟩), .string key] w2 fun e w' => e = .returned (.tuple #[.int .i64 (docO l r (sumZ key)), .bool true]) ∧ Only (fun _ => False) w2 w') := Lib.hid (fun w2 g Q v1 v2 h => by
          refine (own_some h h3 (by omega) (by omega) (by omega) key (by omega)).mono ?_
          rintro e w' ⟨o, rfl, hown, ho⟩
          have hne : pts l r ≠ [] := fun e => by
            have := pts_len l r
            rw [e] at this
            have h6 : 0 < l.length * r := Nat.mul_pos (by omega) (by omega)
            simp at this
            omega
          rw [hown.one (docO_own (fun m hm => (bad_no h4 m hm).1) hne)]
          exact ⟨rfl, ho⟩)
        have hdn : ¬ docO l r (sumZ key) = -1 := by
          have hne : pts l r ≠ [] := fun e => by
            have := pts_len l r
            rw [e] at this
            have h6 : 0 < l.length * r := Nat.mul_pos (by omega) (by omega)
            simp at this
            omega
          obtain ⟨p, hp, ho, _⟩ := docO_own (f := sumZ key) (fun m hm => (bad_no h4 m hm).1) hne
          have := (bad_no h4 p.m (mem_pts.1 hp).1).1
          omega
        obtain ⟨d, hd⟩ : ∃ d, d = docO l r (sumZ key) := ⟨_, rfl⟩
        rw [← hd] at HOW HD hdn
        have hmul : ((l.length * r : Nat) : Int) = (l.length : Int) * (r : Int) := Int.natCast_mul _ _
        have hmb : l.length * r ≤ 64 * 32 := Nat.mul_le_mul h3 (by omega)
        rw [hmul] at HPN
        obtain ⟨n, hn⟩ : ∃ n, n = l.length := ⟨_, rfl⟩
        rw [← hn] at HN HW HD HPN hl hmul hmb ⊢
        obtain ⟨pr, hpr⟩ : ∃ pr, pr = (n : Int) * (r : Int) := ⟨_, rfl⟩
        have hwp : wrap64 ((n : Int) * (r : Int)) = pr := by rw [hpr, ← hmul]; unfold wrap64; omega
        rw [← hpr] at HPN
        have g1 : ¬ (200 : Int) < (key.size : Int) := by omega
        have g2 : ¬ (70 : Int) < (n : Int) := by omega
        clear hC hc hrd hz h1 h2 h3 h4 h5 h0 hl hbig hd hn hmul hmb hpr
        go_enter Try.func3, Try.ntmps3
        go_wp2_with (first
          | (go_at_call 8; refine HN.out.mono ?_; rintro e w1 ⟨g, v1, v2, rfl, hrg, ho⟩; have HRG := Lib.hid hrg; have HO := Lib.hid ho; clear hrg ho)
          | (go_at_call 9; refine (HW.out _ HO.out).mono ?_; rintro e w2 ⟨rfl, ho⟩; have HRH := Lib.hid (HRG.out.only ho (fun _ _ _ h => h)); have HO2 := Lib.hid (HO.out.trans ho); clear ho HRG HO; have HRG := HRH; have HO := HO2; clear HRH HO2)
          | (go_at_call 10; refine (HOW.out _ _ _ _ _ HRG.out).mono ?_; rintro e w2 ⟨rfl, ho⟩; have HRH := Lib.hid (HRG.out.only ho (fun _ _ _ h => h)); have HO2 := Lib.hid (HO.out.trans ho); clear ho HRG HO; have HRG := HRH; have HO := HO2; clear HRH HO2)
          | (go_at_call 11; refine (HD.out _ HO.out).mono ?_; rintro e w2 ⟨rfl, ho⟩; have HRH := Lib.hid (HRG.out.only ho (fun _ _ _ h => h)); have HO2 := Lib.hid (HO.out.trans ho); clear ho HRG HO; have HRG := HRH; have HO := HO2; clear HRH HO2)
          | (go_at_call 12; refine (HPN.out _ _ _ _ _ HRG.out).mono ?_; rintro e w' ⟨rfl, rfl⟩)
          | (go_at_call 7; refine (HA.out _).mono ?_; rintro e w2 ⟨rfl, ho⟩; have HO2 := Lib.hid (HO.out.trans ho); clear ho HO; have HO := HO2; clear HO2))
        go_ret
        exact ⟨rfl, below_of HO.out⟩
    · have HN := Lib.hid (new_not A c l R w hrd hz)
      obtain ⟨x, hx⟩ : ∃ x, x = wr l R := ⟨_, rfl⟩
      rw [← hx] at HN HW hz
      obtain ⟨n, hn⟩ : ∃ n, n = l.length := ⟨_, rfl⟩
      rw [← hn] at HN HW hl ⊢
      have g1 : ¬ (200 : Int) < (key.size : Int) := by omega
      have g2 : ¬ (70 : Int) < (n : Int) := by omega
      clear hC hc hrd hl hbig hx hn
      go_enter Try.func3, Try.ntmps3
      go_wp2_with (first
        | (go_at_call 8; refine HN.out.mono ?_; rintro e w1 ⟨rfl, ho⟩; have HO := Lib.hid ho; clear ho)
        | (go_at_call 9; refine (HW.out _ HO.out).mono ?_; rintro e w2 ⟨rfl, ho⟩; have HO2 := Lib.hid (HO.out.trans ho); clear ho HO; have HO := HO2; clear HO2)
        | (go_at_call 7; refine (HA.out _).mono ?_; rintro e w2 ⟨rfl, ho⟩; have HO2 := Lib.hid (HO.out.trans ho); clear ho HO; have HO := HO2; clear HO2))
      go_ret
      exact ⟨rfl, below_of HO.out⟩
end Go.Proofs.Ytbjepnneklnenaa.Rg

/- Ring: when a member goes, no key moves but its own: the walk. -/
import Derived.Test.YtbjepnneklnenaaRgE
set_option linter.unusedVariables false
set_option linter.unusedSimpArgs false
set_option maxRecDepth 100000
namespace Go.Proofs.Ytbjepnneklnenaa.Rg
open Go.RowKit Go.Maps Go.Shelf Go.Lib Go.Sort Go.Proofs.Ytbjepnneklnenaa.Base Go.Proofs.Ytbjepnneklnenaa.Rws Go.Proofs.Ytbjepnneklnenaa.Crc Go.Proofs.YtbjepnneklnenaaW.PrintWords Go.Proofs.YtbjepnneklnenaaW.PrintMore
attribute [local go_sem] max2_mx min2_mn max_two min_two max_three min_three max_four min_four

set_option maxHeartbeats 4000000 in
theorem moves_walk (l : List Int) (A : Option Addr) (c : Nat) (R : Int) (key : ByteArray) (m : Int) (w : World) (hC : Kd.C KI w A l.length l) (hc : l.length ≤ c) :
    Calls Try.prog 4 #[.slice A l.length c, .int .i64 R, .string key, .int .i64 m] w fun e w' => e = .returned (.bool true) ∧ Below w.heap.size w w' := by
  have HA : Hid (∀ w, Calls Try.prog 7 #[] w fun e w' => e = .returned (.bool true) ∧ Only (fun _ => False) w w') := Lib.hid awake_p
  by_cases hbig : 64 < l.length ∨ 200 < key.size
  · obtain ⟨n, hn⟩ : ∃ n, n = l.length := ⟨_, rfl⟩
    rw [← hn] at hbig ⊢
    clear hC hc hn
    by_cases h1 : 64 < n
    · have h1' : (64 : Int) < (n : Int) := by omega
      clear hbig
      go_enter Try.func4, Try.ntmps4
      go_wp2_with (go_at_call 7; refine (HA.out _).mono ?_; rintro e w1 ⟨rfl, ho⟩; have HO := Lib.hid ho; clear ho)
      go_ret
      exact ⟨rfl, below_of HO.out⟩
    · have h1' : ¬ (64 : Int) < (n : Int) := by omega
      have h2' : (200 : Int) < (key.size : Int) := by omega
      clear hbig
      go_enter Try.func4, Try.ntmps4
      go_wp2_with (go_at_call 7; refine (HA.out _).mono ?_; rintro e w1 ⟨rfl, ho⟩; have HO := Lib.hid ho; clear ho)
      go_ret
      exact ⟨rfl, below_of HO.out⟩
  · have HW := Lib.hid (wrong_p hC hc (by omega) R)
    have hrd := rd_C hC
    have g1 : ¬ (200 : Int) < (key.size : Int) := by omega
    by_cases hz : wr l R = 0
    · obtain ⟨h1, h2, h3, h4, h5⟩ := wr_zero hz
      obtain ⟨r, rfl⟩ : ∃ r : Nat, R = (r : Int) := ⟨R.toNat, by omega⟩
      have HN := Lib.hid (makes_p (c := c) hrd hz key (by omega))
      have HWO : Hid (∀ w1, Only (fun _ => False) w w1 → Calls Try.prog 13 #[.slice A l.length c, .int .i64 m] w1 fun e w' => ∃ A' n' c', e = .returned (.slice A' n' c') ∧ Makes key (ow (wout l m) r (sumZ key)).1 (ow (wout l m) r (sumZ key)).2 (.slice A' n' c') (r : Int) w' ∧ Only (fun _ => False) w1 w') := Lib.hid (fun w1 ho => by
        refine (without_p (Kd.C_below hC (below_of ho)) hc (by omega) m).mono ?_
        rintro e w' ⟨A', c', rfl, hr, h⟩
        exact ⟨A', _, c', rfl, makes_p hr (wr_wout m hz) key (by omega), h⟩)
      have hcs := ow_moves (f := sumZ key) m hz
      rw [hz] at HW
      obtain ⟨n, hn⟩ : ∃ n, n = l.length := ⟨_, rfl⟩
      rw [← hn] at HN HW HWO hcs hbig ⊢
      obtain ⟨x, hx⟩ : ∃ x, x = ow l r (sumZ key) := ⟨_, rfl⟩
      obtain ⟨y, hy⟩ : ∃ y, y = ow (wout l m) r (sumZ key) := ⟨_, rfl⟩
      rw [← hx] at HN hcs
      rw [← hy] at HWO hcs
      obtain ⟨x, bx⟩ := x
      obtain ⟨y, bi⟩ := y
      dsimp only at HN HWO hcs
      have g2 : ¬ (64 : Int) < (n : Int) := by omega
      have HCS := Lib.hid hcs
      clear hC hc hrd hz h1 h2 h3 h4 h5 hbig hn hx hy hcs
      go_enter Try.func4, Try.ntmps4
      go_upto_region 3 with (go_at_call 9; refine HW.out.mono ?_; rintro e w1 ⟨rfl, ho⟩; have HO := Lib.hid ho; clear ho)
      go_upto_region 4 with (go_at_call 8; refine (HN.out _ HO.out).mono ?_; rintro e w2 ⟨g, rfl, hg, ho⟩; have HG := Lib.hid hg; have HO2 := Lib.hid (HO.out.trans ho); clear ho hg)
      go_upto_region 5 with (first
        | (go_at_call 13; refine (HWO.out _ HO2.out).mono ?_; rintro e w3 ⟨A', n', c', rfl, hm, ho⟩; have HM := Lib.hid hm; have HG3 := Lib.hid (HG.out.on ho); have HO3 := Lib.hid (HO2.out.trans ho); clear ho hm)
        | (go_at_call 8; refine (HM.out _ (Only.refl _ _)).mono ?_; rintro e w4 ⟨g4, rfl, hg, ho⟩; have HK4 := Lib.hid hg; have HG4 := Lib.hid (HG3.out.on ho); have HO4 := Lib.hid (HO3.out.trans ho); clear ho hg))
      clear HG HO HO2 HG3 HO3 HW HN HWO HM
      go_upto_region 6 with (go_at_call 10; refine (HG4.out _ (Only.refl _ _)).mono ?_; rintro e w5 ⟨rfl, ho⟩; have HK5 := Lib.hid (HK4.out.on ho); have HO5 := Lib.hid (HO4.out.trans ho); clear ho)
      go_upto_region 7 with (go_at_call 10; refine (HK5.out _ (Only.refl _ _)).mono ?_; rintro e w6 ⟨rfl, ho⟩; have HO6 := Lib.hid (HO5.out.trans ho); clear ho)
      clear HK5 HO5 HK4 HG4 HO4
      rcases HCS.out with ⟨h0, h1, h2⟩ | ⟨h0, h1, h2, h3⟩ | ⟨h0, h1, h2, h3, h4⟩ | ⟨h0, h1, h2, h3, h4⟩
      · injection h1 with h1 h1'
        injection h2 with h2 h2'
        subst h0 h1 h1' h2 h2'
        clear HCS
        by_cases hm0 : (0 : Int) = m
        · subst hm0
          go_wp2_with (go_at_call 7; refine (HA.out _).mono ?_; rintro e w7 ⟨rfl, ho⟩; have HO7 := Lib.hid (HO6.out.trans ho); clear ho)
          go_ret
          exact ⟨rfl, below_of HO7.out⟩
        · go_wp2_with (go_at_call 7; refine (HA.out _).mono ?_; rintro e w7 ⟨rfl, ho⟩; have HO7 := Lib.hid (HO6.out.trans ho); clear ho)
          go_ret
          exact ⟨rfl, below_of HO7.out⟩
      · have h0' : (0 : Int) < (n : Int) := by omega
        have h0n : 0 < n := by omega
        clear h0
        subst h1 h2 h3
        clear HCS
        go_wp2_with (go_at_call 7; refine (HA.out _).mono ?_; rintro e w7 ⟨rfl, ho⟩; have HO7 := Lib.hid (HO6.out.trans ho); clear ho)
        go_ret
        exact ⟨rfl, below_of HO7.out⟩
      · have h0' : (0 : Int) < (n : Int) := by omega
        have h0n : 0 < n := by omega
        clear h0
        subst h1 h2 h3
        have hyx : (y != x) = true := by simp [h4]
        clear HCS
        go_wp2_with (go_at_call 7; refine (HA.out _).mono ?_; rintro e w7 ⟨rfl, ho⟩; have HO7 := Lib.hid (HO6.out.trans ho); clear ho)
        go_ret
        exact ⟨rfl, below_of HO7.out⟩
      · have h0' : (0 : Int) < (n : Int) := by omega
        have h0n : 0 < n := by omega
        clear h0
        subst h2 h3 h4
        clear HCS
        go_wp2_with (go_at_call 7; refine (HA.out _).mono ?_; rintro e w7 ⟨rfl, ho⟩; have HO7 := Lib.hid (HO6.out.trans ho); clear ho)
        go_ret
        exact ⟨rfl, below_of HO7.out⟩
    · obtain ⟨x, hx⟩ : ∃ x, x = wr l R := ⟨_, rfl⟩
      rw [← hx] at HW hz
      obtain ⟨n, hn⟩ : ∃ n, n = l.length := ⟨_, rfl⟩
      rw [← hn] at HW hbig ⊢
      have g2 : ¬ (64 : Int) < (n : Int) := by omega
      clear hC hc hrd hbig hx hn
      go_enter Try.func4, Try.ntmps4
      go_wp2_with (first
        | (go_at_call 9; refine HW.out.mono ?_; rintro e w2 ⟨rfl, ho⟩; have HO := Lib.hid ho; clear ho)
        | (go_at_call 7; refine (HA.out _).mono ?_; rintro e w2 ⟨rfl, ho⟩; have HO2 := Lib.hid (HO.out.trans ho); clear ho HO; have HO := HO2; clear HO2))
      go_ret
      exact ⟨rfl, below_of HO.out⟩
end Go.Proofs.Ytbjepnneklnenaa.Rg

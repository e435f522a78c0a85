/- Wheel: next. -/
import Derived.Test.YtkjokpmlnnjmoaaWhD
set_option linter.unusedVariables false
set_option linter.unusedSimpArgs false
namespace Go.Proofs.Ytkjokpmlnnjmoaa.Wh
open Go.RowKit Go.Maps Go.Proofs.Ytkjokpmlnnjmoaa.Base Go.Proofs.Ytkjokpmlnnjmoaa.Rws Go.Proofs.YtkjokpmlnnjmoaaW.PrintWords Go.Proofs.YtkjokpmlnnjmoaaW.PrintMore
attribute [local go_sem] max2_mx min2_mn max_two min_two max_three min_three max_four min_four

/-- What next tells. -/
def NextPost (w : World) (g : Nat) (n : Int) (L : List Tm) (rows : Nat → List Int) (e : Ending) (w' : World) : Prop :=
  Only (fun _ => False) w w' ∧ ((L = [] ∧ e = .returned (.tuple #[.int .i64 0, .pointer none, .bool false])) ∨
    ∃ (x : Int) (i : Nat), i < 257 ∧ e = .returned (.tuple #[.int .i64 x, .pointer (some ⟨g, 2 + i, none⟩), .bool true]) ∧ n < x ∧ x ≤ 1125899906842624 ∧ (∀ t ∈ L, x ≤ t.at_) ∧ J x L (upd rows i []) (rows i) ∧ rows i ≠ [] ∧ ∀ t ∈ L, ∀ m : Int, n ≤ m → m < x → place m t.at_ = place n t.at_)

theorem four_cases {k : Nat} (h : k < 4) : (k : Int) = 0 ∨ (k : Int) = 1 ∨ (k : Int) = 2 ∨ (k : Int) = 3 := by omega

theorem ix_low {k s : Nat} (h : k < 4) (hs : s < 64) : ixOf (k : Int) (s : Int) = 64 * k + s ∧ ixOf (k : Int) (s : Int) < 257 := by
  unfold ixOf
  rw [if_neg (by omega)]
  omega

theorem field_at (t : Tm) (w : World) : (Instr.field 60 t.v 0).run Try.prog w = .ok (.int .i64 t.at_) w := by
  kernel_rfl

set_option maxHeartbeats 8000000 in
set_option maxRecDepth 100000 in
theorem next_p {w : World} {g b : Nat} {F : Nat → Prop} {n last : Int} {L : List Tm} {vals : Nat → Value} {rows : Nat → List Int} (hs : WS w g b F n last L vals rows) (j : J n L rows []) (hn : cl n = n) (hf : ∀ t ∈ L, n < t.at_) (hL : ∀ i, (rows i).length ≤ 10000) :
    Calls Try.prog 25 #[.pointer (some ⟨g, 0, none⟩)] w (NextPost w g n L rows) := by
  have HS := Lib.hid hs
  have HJ := Lib.hid j
  have HF := Lib.hid hf
  have HLR := Lib.hid hL
  have HP : Hid (∀ (k : Nat), k < 4 → ∀ w, Calls Try.prog 40 #[.int .i64 n, .int .i64 (k : Int)] w fun e w' => e = .returned (.int .i64 (partI n (k : Int))) ∧ w = w') := Lib.hid (fun k hk w => by
    have h := part_p n (k : Int) (four_cases hk) w
    rw [hn] at h
    exact h)
  have HST : Hid (∀ (k s : Nat), k < 4 → s < 64 → ∀ w, Calls Try.prog 41 #[.int .i64 n, .int .i64 (k : Int), .int .i64 (s : Int)] w fun e w' => e = .returned (.int .i64 (startI n (k : Int) (s : Int))) ∧ Only (fun _ => False) w w') := Lib.hid (fun k s hk hs w => by
    have h := start_p n (k : Int) (s : Int) (four_cases hk) (by omega) (by omega) w
    rw [hn] at h
    exact h)
  clear hs j hn hf hL
  go_enter Try.func25, Try.ntmps25
  go_wp2
  go_loopw [11, 5, 6, 7] (fun v11 _ _ _ wr => ∃ (k : Nat), v11 = .int .i64 (k : Int) ∧ k ≤ 4 ∧ Hid (∀ l' s' : Int, (l' = 0 ∨ l' = 1 ∨ l' = 2 ∨ l' = 3) → partI n l' < s' → s' < 64 → l' < (k : Int) → rows (ixOf l' s') = []) ∧ Hid (Only (fun _ => False) w wr)) (fun v11 _ _ _ _ => 4 - (RowKit.intOf v11).toNat)
  case atStart => exact ⟨0, rfl, by omega, Lib.hid (fun l' s' h _ _ h2 => by omega), Lib.hid (Only.refl _ _)⟩
  case round =>
    obtain ⟨k, rfl, hk, HE, HO⟩ := hrel
    have hgo : k < 4 ∨ k = 4 := by omega
    rcases hgo with hlt | rfl
    · have hlt' : (k : Int) < 4 := by omega
      have HSr := Lib.hid (HS.out.only HO.out (fun _ _ h => h))
      have z0 := HSr.out.blk.now
      obtain ⟨p, hp⟩ : ∃ p : Nat, partI n (k : Int) = (p : Int) := ⟨(partI n (k : Int)).toNat, by have := part_bd n (k : Int); omega⟩
      have hp64 : p < 64 := by have := part_bd n (k : Int); omega
      have HPk : Hid (∀ w, Calls Try.prog 40 #[.int .i64 n, .int .i64 (k : Int)] w fun e w' => e = .returned (.int .i64 (p : Int)) ∧ w = w') := Lib.hid (fun w => by rw [← hp]; exact HP.out k hlt w)
      have HPE := Lib.hid hp
      clear hp
      go_upto_region 5 with (go_at_call 40; refine (HPk.out _).mono ?_; rintro e w' ⟨rfl, rfl⟩)
      clear HSr z0
      go_loopw [6, 7] (fun v6 _ wr => ∃ (s : Nat), v6 = .int .i64 (s : Int) ∧ p < s ∧ s ≤ 64 ∧ Hid (∀ s' : Int, (p : Int) < s' → s' < (s : Int) → rows (ixOf (k : Int) s') = []) ∧ Hid (Only (fun _ => False) w wr)) (fun v6 _ _ => 64 - (RowKit.intOf v6).toNat)
      case atStart => exact ⟨p + 1, by go_num, by omega, by omega, Lib.hid (fun s' h1 h2 => by omega), HO⟩
      case round =>
        obtain ⟨s, rfl, hps, hs64, HE2, HO2⟩ := hrel
        have hgo2 : s < 64 ∨ s = 64 := by omega
        rcases hgo2 with hlt2 | rfl
        · have hlt2' : (s : Int) < 64 := by omega
          have HS2 := Lib.hid (HS.out.only HO2.out (fun _ _ h => h))
          obtain ⟨hix, hixl⟩ := ix_low hlt hlt2
          have hx0 := HS2.out.blk.val (64 * k + s) (by omega)
          have hn0 := HS2.out.blk.now
          obtain ⟨A, c, hV, _⟩ := (HS2.out.row (64 * k + s) (by omega)).form
          rw [hV] at hx0
          have e5 : 2 + (64 * k + s) = 2 + k * 64 + s := by omega
          rw [e5] at hx0
          obtain ⟨N, hN⟩ : ∃ N, N = (rows (64 * k + s)).length := ⟨_, rfl⟩
          rw [← hN] at hx0
          have HN := Lib.hid hN
          clear hN hV e5
          by_cases h0 : N = 0
          · have HZ : Hid (rows (ixOf (k : Int) (s : Int)) = []) := Lib.hid (by rw [hix]; exact List.length_eq_zero_iff.1 (by rw [← HN.out]; exact h0))
            subst h0
            go_wp2
            go_roundw
            case rel => exact ⟨s + 1, by go_num, by omega, by omega, Lib.hid (fun s' h1 h2 => by
              by_cases e : s' = (s : Int)
              · rw [e]; exact HZ.out
              · exact HE2.out s' h1 (by omega)), HO2⟩
            case measure => simp [RowKit.intOf]; omega
          · have hd : decide (0 < N) = true := decide_eq_true (by omega)
            have HNZ : Hid (rows (ixOf (k : Int) (s : Int)) ≠ []) := Lib.hid (fun e => h0 (by rw [HN.out, ← hix, e]; rfl))
            have HSTk := Lib.hid (HST.out k s hlt hlt2)
            have HIX := Lib.hid hix
            have HIXL := Lib.hid hixl
            clear h0 hix hixl
            go_wp2_with (go_at_call 41; refine (HSTk.out _).mono ?_; rintro e w9 ⟨rfl, o9⟩; have O9 := Lib.hid (HO2.out.trans o9); clear o9)
            go_ret3
            have hnx := HJ.out.next HF.out (four_cases hlt) (l := (k : Int)) (s := (s : Int)) (by rw [HPE.out]; omega) (by omega) HNZ.out (fun l' s' hl hp hs hlex => by
              rcases hlex with h | ⟨h1, h2⟩
              · exact HE.out l' s' hl hp hs h
              · rw [h1] at hp ⊢
                rw [HPE.out] at hp
                exact HE2.out s' hp h2)
            refine ⟨O9.out, .inr ⟨startI n (k : Int) (s : Int), ixOf (k : Int) (s : Int), HIXL.out, ?_, hnx.1, hnx.2.1, hnx.2.2.1, hnx.2.2.2.1, HNZ.out, hnx.2.2.2.2⟩⟩
            rw [HIX.out, show 2 + (64 * k + s) = 2 + k * 64 + s by omega]
            rfl
        · have hge : ¬ (64 : Int) < 64 := by omega
          have HE3 : Hid (∀ l' s' : Int, (l' = 0 ∨ l' = 1 ∨ l' = 2 ∨ l' = 3) → partI n l' < s' → s' < 64 → l' < ((k + 1 : Nat) : Int) → rows (ixOf l' s') = []) := Lib.hid (fun l' s' hl hp hs hlex => by
            by_cases e : l' = (k : Int)
            · rw [e] at hp ⊢
              rw [HPE.out] at hp
              exact HE2.out s' hp (by omega)
            · exact HE.out l' s' hl hp hs (by omega))
          go_wp2
          go_roundw
          case rel => exact ⟨k + 1, by go_num, by omega, HE3, HO2⟩
          case measure => simp [RowKit.intOf]; omega
    · rw [show ((4 : Nat) : Int) = (4 : Int) from rfl]
      have HOV := Lib.hid (HJ.out.over HF.out (fun l' s' hl hp hs => HE.out l' s' hl hp hs (by omega)))
      have HS2 := Lib.hid (HS.out.only HO.out (fun _ _ h => h))
      have hx0 := HS2.out.blk.val 256 (by omega)
      have hm0 := HS2.out.blk.mapc
      have HROW := HS2.out.row 256 (by omega)
      obtain ⟨A, c, hV, _⟩ := HROW.form
      obtain ⟨R, hR⟩ : ∃ R, R = rows 256 := ⟨_, rfl⟩
      obtain ⟨N, hN⟩ : ∃ N, N = R.length := ⟨_, rfl⟩
      rw [← hR] at hV HROW
      rw [← hN] at hV
      rw [hV] at hx0 HROW
      have hxx : wr.cell? ⟨g, 258, none⟩ = some (.slice A N c) := hx0
      have HK := Lib.hid HROW
      have HN := Lib.hid hN
      have HR := Lib.hid hR
      have HRL : Hid (N ≤ 10000) := by rw [hN, hR]; exact Lib.hid (HLR.out 256)
      clear hx0 hV hN hR HROW
      by_cases h0 : N = 0
      · have hb : ((N : Int) == 0) = true := by simp [h0]
        have HZ : Hid (rows 256 = []) := Lib.hid (by rw [← HR.out]; exact List.length_eq_zero_iff.1 (by rw [← HN.out]; exact h0))
        clear h0
        go_wp2
        go_ret3
        exact ⟨HO.out, .inl ⟨HOV.out.2.1 HZ.out, rfl⟩⟩
      · have hb : ((N : Int) == 0) = false := by simp [h0]
        have HNZ : Hid (0 < N) := Lib.hid (by omega)
        have HRM : Hid (∀ h ∈ R, ∃ t ∈ L, t.h = h) := Lib.hid (fun h hm => by
          rw [HR.out] at hm
          obtain ⟨_, t, ht, hh, _⟩ := (HJ.out.mem _ _).1 hm
          exact ⟨t, ht, hh⟩)
        have HTU : Hid (∀ t ∈ L, ∀ w, Calls Try.prog 42 #[.int .i64 t.at_] w fun e w' => e = .returned (.int .i64 (turnI t.at_)) ∧ w = w') := Lib.hid (fun t ht w => by
          have h := turn_p t.at_ w
          have hb := HJ.out.bd t ht
          rw [cl_same _ hb.1 hb.2] at h
          exact h)
        clear h0
        have hNb := HRL.out
        go_upto_region 15 with fail
        obtain ⟨w5, hw5⟩ : ∃ w5, w5 = wr := ⟨_, rfl⟩
        rw [← hw5]
        have HS5 : Hid (WS w5 g b F n last L vals rows) := by rw [hw5]; exact HS2
        have HK5 : Hid (Ks w5 F (.slice A N c) R) := by rw [hw5]; exact HK
        have HO5 : Hid (Only (fun _ => False) w w5) := by rw [hw5]; exact HO
        clear hw5 hxx hm0 HS2 HK HO
        go_loopw [8, 57, 10] (fun v8 v57 _ wr => ∃ (k : Nat) (x : Int), v57 = .int .i64 (k : Int) ∧ v8 = .int .i64 x ∧ k ≤ N ∧ Hid (∀ h ∈ R.take k, ∀ t ∈ L, t.h = h → x ≤ turnI t.at_) ∧ Hid (x = 1125899906842624 ∨ ∃ t ∈ L, x = turnI t.at_) ∧ wr = w5) (fun _ v57 _ _ => N - (RowKit.intOf v57).toNat)
        case atStart => exact ⟨0, 1125899906842624, rfl, rfl, Nat.zero_le _, Lib.hid (by simp), Lib.hid (.inl rfl), rfl⟩
        case round =>
          obtain ⟨k, x, rfl, rfl, hk, HX, HX2, rfl⟩ := hrel
          have hgo : k < N ∨ k = N := by omega
          rcases hgo with hlt | rfl
          · have hlt' : (k : Int) < (N : Int) := by omega
            have hkr : k < R.length := by rw [← HN.out]; exact hlt
            have hge : R[k]? = some R[k] := List.getElem?_eq_getElem hkr
            obtain ⟨t, ht, hth⟩ := HRM.out _ (List.getElem_mem hkr)
            rw [← hth] at hge
            clear hth hkr
            have hlk := HS5.out.map.look ht
            have HT := Lib.hid (HTU.out t ht)
            obtain ⟨a, h, l, s⟩ := t
            simp only at hge HT
            unfold Tm.v at hlk
            simp only at hlk
            have HTL := Lib.hid ht
            have HGE := Lib.hid hge
            obtain ⟨q2, o2, c2, he, hcc⟩ := Row.some_ (by have := HK5.out; unfold Ks at this; rw [← HN.out] at this; exact this) HNZ.out
            injection he with e1 e2 e3
            subst e1 e3
            have hK5 := HK5.out
            unfold Ks at hK5
            rw [← HN.out] at hK5
            have hx0 : wr.cell? ⟨q2, o2 + k, none⟩ = some (.int .i64 h) := Row.cell hK5 k (by rw [List.getElem?_map, hge]; rfl)
            have hm0 := HS5.out.blk.mapc
            have hfd := field_at ⟨a, h, l, s⟩ wr
            unfold Tm.v at hfd
            simp only at hfd
            clear ht hge hcc hK5
            go_wp2_with (go_at_call 42; refine (HT.out _).mono ?_; rintro e w' ⟨rfl, rfl⟩)
            go_roundw
            case rel =>
              refine ⟨k + 1, mn x (turnI a), by go_num, by first | rfl | simp, by omega, Lib.hid ?_, Lib.hid ?_, trivial⟩
              · intro h2 hm2 t2 ht2 hh2
                rw [List.take_add_one, HGE.out] at hm2
                have hle : mn x (turnI a) ≤ x ∧ mn x (turnI a) ≤ turnI a := by unfold mn; split <;> omega
                rcases List.mem_append.1 hm2 with h3 | h3
                · exact Int.le_trans hle.1 (HX.out h2 h3 t2 ht2 hh2)
                · simp at h3
                  rw [h3] at hh2
                  have := HJ.out.one ht2 HTL.out hh2
                  rw [this]
                  exact hle.2
              · unfold mn
                split
                · exact .inr ⟨_, HTL.out, rfl⟩
                · exact HX2.out
            case measure => simp [RowKit.intOf]; omega
          · have hge : ¬ (k : Int) < k := by omega
            have HNE : Hid (L ≠ []) := Lib.hid (fun e => by
              have : R ≠ [] := fun h => by have h1 := HN.out; have h2 := HNZ.out; rw [h] at h1; simp at h1; omega
              obtain ⟨h, hm⟩ := List.exists_mem_of_ne_nil R this
              obtain ⟨t, ht, _⟩ := HRM.out h hm
              rw [e] at ht
              cases ht)
            have HRE : Hid (rows 256 ≠ []) := Lib.hid (fun e => by have h1 := HN.out; have h2 := HNZ.out; rw [HR.out, e] at h1; simp at h1; omega)
            have HFIN := Lib.hid (HOV.out.2.2 x (fun t ht => HX.out t.h (by rw [HN.out, List.take_length, HR.out]; exact HOV.out.1 t ht) t ht rfl) HX2.out HNE.out)
            go_wp2
            go_quiet (fail)
            go_wp2
            go_ret3
            exact ⟨HO5.out.drewN _, .inr ⟨x, 256, by omega, rfl, HFIN.out.1, HFIN.out.2.1, HFIN.out.2.2.1, HFIN.out.2.2.2.1, HRE.out, HFIN.out.2.2.2.2⟩⟩

end Go.Proofs.Ytkjokpmlnnjmoaa.Wh

/- Ring: the order of members does not matter. -/
import Derived.Test.YtbjepnneklnenaaRgE
set_option linter.unusedVariables false
set_option linter.unusedSimpArgs false
set_option maxRecDepth 100000
namespace Go.Proofs.Ytbjepnneklnenaa.Rg
open Go.RowKit Go.Maps Go.Shelf Go.Lib Go.Sort Go.Proofs.Ytbjepnneklnenaa.Base Go.Proofs.Ytbjepnneklnenaa.Rws Go.Proofs.Ytbjepnneklnenaa.Crc Go.Proofs.YtbjepnneklnenaaW.PrintWords Go.Proofs.YtbjepnneklnenaaW.PrintMore
attribute [local go_sem] max2_mx min2_mn max_two min_two max_three min_three max_four min_four

theorem Ks.rd {w : World} {P : Nat → Prop} {A : Option Addr} {c : Nat} {L : List Int} (h : Ks w P (.slice A L.length c) L) : Rd w A L := fun j x hx => by
  have hlt := (List.getElem?_eq_some_iff.1 hx).1
  obtain ⟨q, o, c', he, _⟩ := Row.some_ h (by omega)
  injection he with e1 e2 e3
  subst e1
  refine ⟨_, rfl, ?_⟩
  rw [Addr.add_lit]
  exact Row.cell h j (u := .int .i64 x) (by rw [List.getElem?_map, hx]; rfl)

theorem wr_rev {l : List Int} {R : Int} (hz : wr l R = 0) : wr l.reverse R = 0 := by
  obtain ⟨h1, h2, h3, h4, h5⟩ := wr_zero hz
  exact wr_of h1 h2 (by rw [List.length_reverse]; exact h3) (any_bad (fun x hx => bad_no h4 x (List.mem_reverse.1 hx))) ((List.reverse_perm l).nodup_iff.2 h5)

theorem ow_rev {l : List Int} {R : Nat} {f : Int} (hz : wr l (R : Int) = 0) : ow l.reverse R f = ow l R f := by
  by_cases h0 : l.length = 0
  · rw [ow_none h0, ow_none (by rw [List.length_reverse]; exact h0)]
  · have h1 : l.reverse.length ≠ 0 := by rw [List.length_reverse]; exact h0
    have h2 := (ow_own (f := f) (wr_rev hz) h1).of_mem (K' := pts l R) (fun p => by rw [mem_pts, mem_pts, List.mem_reverse])
    have h3 := h2.one (ow_own hz h0)
    exact Prod.ext h3 (by rw [ow_some h0, ow_some h1])

set_option maxHeartbeats 4000000 in
theorem order_walk (l : List Int) (A : Option Addr) (c : Nat) (R : Int) (key : ByteArray) (w : World) (hC : Kd.C KI w A l.length l) (hc : l.length ≤ c) :
    Calls Try.prog 5 #[.slice A l.length c, .int .i64 R, .string key] w fun e w' => e = .returned (.bool true) ∧ Below w.heap.size w w' := by
  have HA : Hid (∀ w, Calls Try.prog 7 #[] w fun e w' => e = .returned (.bool true) ∧ Only (fun _ => False) w w') := Lib.hid awake_p
  by_cases hbig : 64 < l.length ∨ 200 < key.size
  · obtain ⟨n, hn⟩ : ∃ n, n = l.length := ⟨_, rfl⟩
    rw [← hn] at hbig ⊢
    clear hC hc hn
    by_cases h1 : 64 < n
    · have h1' : (64 : Int) < (n : Int) := by omega
      clear hbig
      go_enter Try.func5, Try.ntmps5
      go_wp2_with (go_at_call 7; refine (HA.out _).mono ?_; rintro e w1 ⟨rfl, ho⟩; have HO := Lib.hid ho; clear ho)
      go_ret
      exact ⟨rfl, below_of HO.out⟩
    · have h1' : ¬ (64 : Int) < (n : Int) := by omega
      have h2' : (200 : Int) < (key.size : Int) := by omega
      clear hbig
      go_enter Try.func5, Try.ntmps5
      go_wp2_with (go_at_call 7; refine (HA.out _).mono ?_; rintro e w1 ⟨rfl, ho⟩; have HO := Lib.hid ho; clear ho)
      go_ret
      exact ⟨rfl, below_of HO.out⟩
  · have HW := Lib.hid (wrong_p hC hc (by omega) R)
    have hrd := rd_C hC
    have g1 : ¬ (200 : Int) < (key.size : Int) := by omega
    by_cases hz : wr l R = 0
    · obtain ⟨h1, h2, h3, h4, h5⟩ := wr_zero hz
      obtain ⟨r, rfl⟩ : ∃ r : Nat, R = (r : Int) := ⟨R.toNat, by omega⟩
      have HNA := Lib.hid (makes_p (c := c) hrd hz key (by omega))
      have HNB : Hid (∀ (w1 : World) (P : Nat → Prop) (v : Value), Ks w1 P v l.reverse → Makes key (ow l r (sumZ key)).1 (ow l r (sumZ key)).2 v (r : Int) w1) := Lib.hid (fun w1 P v h => by
        obtain ⟨A', c', hv, _⟩ := Row.form h
        subst hv
        have := makes_p (c := c') (Ks.rd h) (wr_rev hz) key (by omega)
        rwa [ow_rev hz] at this)
      have HRD := Lib.hid hrd
      have HIN : Hid (l.length = 0 ∨ (ow l r (sumZ key)).1 ∈ l) := Lib.hid (by
        by_cases h0 : l.length = 0
        · exact .inl h0
        · exact .inr (ow_mem hz h0))
      rw [hz] at HW
      have HN : Hid (∃ n, n = l.length) := Lib.hid ⟨_, rfl⟩
      obtain ⟨n, hn⟩ := HN.out
      have HL := Lib.hid hn
      rw [← hn] at HNA HW HIN hbig ⊢
      obtain ⟨x, hx⟩ : ∃ x, x = ow l r (sumZ key) := ⟨_, rfl⟩
      rw [← hx] at HNA HNB HIN
      obtain ⟨x, bx⟩ := x
      dsimp only at HNA HNB HIN
      have g2 : ¬ (64 : Int) < (n : Int) := by omega
      have gn : n ≤ 64 := by omega
      have hw0 : wrap64 ((n : Int) - 1) = (n : Int) - 1 := by unfold wrap64; omega
      clear hC hc hrd hz h1 h2 h3 h4 h5 hbig hn hx HN
      go_enter Try.func5, Try.ntmps5
      go_upto_region 4 with (go_at_call 9; refine HW.out.mono ?_; rintro e w1 ⟨rfl, ho⟩; have HO := Lib.hid ho; clear ho)
      go_upto_region 5 with fail
      clear hw0
      go_loopw [7, 8] (fun v7 v8 wr => ∃ (k : Nat) (i : Int), v8 = .int .i64 i ∧ i = (n : Int) - 1 - (k : Int) ∧ k ≤ n ∧ Hid (Ks wr (fun q => w.heap.size ≤ q) v7 (l.reverse.take k)) ∧ Hid (Only (fun _ => False) w wr)) (fun _ v8 _ => (RowKit.intOf v8 + 1).toNat)
      case atStart => exact ⟨0, _, rfl, by omega, Nat.zero_le _, Lib.hid (Row.nil _ _ _ _), HO⟩
      case round =>
        clear HO
        obtain ⟨k, i, rfl, hi, hk, HK, HO⟩ := hrel
        have hgo : k < n ∨ k = n := by omega
        rcases hgo with hlt | rfl
        · obtain ⟨j, rfl⟩ : ∃ j : Nat, i = (j : Int) := ⟨i.toNat, by omega⟩
          have hj : j + k + 1 = n := by omega
          have hge0 : (0 : Int) ≤ (j : Int) := by omega
          have hltn : (j : Int) < (n : Int) := by omega
          obtain ⟨y, hy⟩ : ∃ y, l[j]? = some y := ⟨_, List.getElem?_eq_getElem (by rw [← HL.out]; omega)⟩
          obtain ⟨ad, rfl, hcy⟩ := (HRD.out.only HO.out) j y hy
          have HTK : Hid (l.reverse.take (k + 1) = l.reverse.take k ++ [y]) := Lib.hid (by
            rw [List.take_add_one, List.getElem?_reverse (by rw [← HL.out]; omega), ← HL.out, show n - 1 - k = j by omega, hy, Option.toList_some])
          obtain ⟨v9, w9, hr9, hk9, ho9⟩ := Ks.app HK.out (fun q hq => by have := HO.out.size; omega) (by rw [List.length_take]; omega) y 22
          have HRR := Lib.hid hr9
          rw [← HTK.out] at hk9
          have HK9 := Lib.hid hk9
          have HO9 : Hid (Only (fun _ => False) w w9) := Lib.hid (HO.out.then_ ho9 (fun q hq => .inr (Row.own HK.out hq).1))
          have hwj : wrap64 ((j : Int) - 1) = (j : Int) - 1 := by unfold wrap64; omega
          have HI : Hid ((j : Int) = (n : Int) - 1 - (k : Int)) := Lib.hid hi
          clear hy hr9 hk9 ho9 hj hi
          go_wp2_with ((with_reducible refine gate_builtin (b := .append) (xs := #[.tmp 41, .tmp 46]) rfl ?_); at_builtin; go_loud (refine Go.Lib.wpList_append_run_sl _ rfl (.tmp 41) (.tmp 46) 22 rfl _ _ rfl rfl HRR.out ?_))
          go_roundw
          case rel =>
            refine ⟨k + 1, (j : Int) - 1, rfl, ?_, by omega, HK9, HO9⟩
            have := HI.out
            omega
          case measure => simp [RowKit.intOf]
        · have hge0 : ¬ (0 : Int) ≤ i := by omega
          have hk2 := HK.out
          rw [show l.reverse.take k = l.reverse from List.take_of_length_le (by rw [List.length_reverse, ← HL.out]; exact Nat.le_refl _)] at hk2
          have HMB := Lib.hid (HNB.out _ _ _ hk2)
          clear hk2 HK hi
          go_upto_region 9 with (go_at_call 8; refine (HNA.out _ HO.out).mono ?_; rintro e w2 ⟨g, rfl, hg, ho⟩; have HG := Lib.hid hg; have HO2 := Lib.hid (HO.out.trans ho); have HOB := Lib.hid ho; clear ho hg)
          go_upto_region 10 with (go_at_call 8; refine (HMB.out _ HOB.out).mono ?_; rintro e w3 ⟨g3, rfl, hg, ho⟩; have HG3 := Lib.hid (HG.out.on ho); have HK3 := Lib.hid hg; have HO3 := Lib.hid (HO2.out.trans ho); clear ho hg)
          clear HOB HG HO2 HO HMB HNA HNB HW
          go_upto_region 11 with (go_at_call 10; refine (HG3.out _ (Only.refl _ _)).mono ?_; rintro e w4 ⟨rfl, ho⟩; have HK4 := Lib.hid (HK3.out.on ho); have HO4 := Lib.hid (HO3.out.trans ho); clear ho)
          go_upto_region 12 with (go_at_call 10; refine (HK4.out _ (Only.refl _ _)).mono ?_; rintro e w5 ⟨rfl, ho⟩; have HO5 := Lib.hid (HO4.out.trans ho); clear ho)
          clear HG3 HK3 HO3 HK4 HO4
          go_upto_region 14 with fail
          go_loopw [17, 18] (fun v17 v18 wr => ∃ (b : Bool) (i : Nat), v17 = .bool b ∧ v18 = .int .i64 (i : Int) ∧ i ≤ k ∧ Hid (b = true ↔ (k = 0 ∨ x ∈ l.take i)) ∧ Hid (Only (fun _ => False) w wr)) (fun _ v18 _ => k - (RowKit.intOf v18).toNat)
          case atStart => exact ⟨_, 0, rfl, rfl, Nat.zero_le _, Lib.hid (by simp), HO5⟩
          case round =>
            clear HO5
            obtain ⟨b, i, rfl, rfl, hi, HB, HO⟩ := hrel
            have hgo : i < k ∨ i = k := by omega
            rcases hgo with hlt | rfl
            · have hltn : (i : Int) < (k : Int) := by omega
              obtain ⟨y, hy⟩ : ∃ y, l[i]? = some y := ⟨_, List.getElem?_eq_getElem (by rw [← HL.out]; omega)⟩
              obtain ⟨ad, rfl, hcy⟩ := (HRD.out.only HO.out) i y hy
              have HTK : Hid (l.take (i + 1) = l.take i ++ [y]) := Lib.hid (by rw [List.take_add_one, hy, Option.toList_some])
              clear hy
              cases b with
              | true =>
                go_wp2
                go_roundw
                case rel =>
                  refine ⟨true, i + 1, rfl, by go_num, by omega, Lib.hid ⟨fun _ => ?_, fun _ => rfl⟩, HO⟩
                  rw [HTK.out, List.mem_append]
                  rcases HB.out.1 rfl with h | h
                  · exact .inl h
                  · exact .inr (.inl h)
                case measure => simp [RowKit.intOf]; omega
              | false =>
                by_cases he : y = x
                · subst he
                  go_wp2
                  go_roundw
                  case rel => exact ⟨true, i + 1, rfl, by go_num, by omega, Lib.hid ⟨fun _ => by rw [HTK.out]; exact .inr (by simp), fun _ => rfl⟩, HO⟩
                  case measure => simp [RowKit.intOf]; omega
                · have heb : (y == x) = false := by simp [he]
                  go_wp2
                  go_roundw
                  case rel =>
                    refine ⟨false, i + 1, rfl, by go_num, by omega, Lib.hid ⟨fun h => (by cases h), fun h => ?_⟩, HO⟩
                    rw [HTK.out, List.mem_append, List.mem_singleton] at h
                    rcases h with h | h | h
                    · exact HB.out.2 (.inl h)
                    · exact HB.out.2 (.inr h)
                    · exact absurd h.symm he
                  case measure => simp [RowKit.intOf]; omega
            · have hge : ¬ (i : Int) < i := by omega
              have hbt : b = true := HB.out.2 (by rw [List.take_of_length_le (by rw [← HL.out]; exact Nat.le_refl _)]; exact HIN.out)
              subst hbt
              go_wp2_with (go_at_call 7; refine (HA.out _).mono ?_; rintro e w7 ⟨rfl, ho⟩; have HO7 := Lib.hid (HO.out.trans ho); clear ho)
              go_ret
              exact ⟨rfl, below_of HO7.out⟩
    · obtain ⟨x, hx⟩ : ∃ x, x = wr l R := ⟨_, rfl⟩
      rw [← hx] at HW hz
      obtain ⟨n, hn⟩ : ∃ n, n = l.length := ⟨_, rfl⟩
      rw [← hn] at HW hbig ⊢
      have g2 : ¬ (64 : Int) < (n : Int) := by omega
      clear hC hc hrd hbig hx hn
      go_enter Try.func5, Try.ntmps5
      go_wp2_with (first
        | (go_at_call 9; refine HW.out.mono ?_; rintro e w2 ⟨rfl, ho⟩; have HO := Lib.hid ho; clear ho)
        | (go_at_call 7; refine (HA.out _).mono ?_; rintro e w2 ⟨rfl, ho⟩; have HO2 := Lib.hid (HO.out.trans ho); clear ho HO; have HO := HO2; clear HO2))
      go_ret
      exact ⟨rfl, below_of HO.out⟩
end Go.Proofs.Ytbjepnneklnenaa.Rg

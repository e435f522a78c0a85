/- Ring: all keys go to somebody; each member is told with how many: the walk. -/
import Derived.Test.YtbjepnneklnenaaRgI
import Derived.Deep.RegionHeld3
set_option linter.unusedVariables false
set_option linter.unusedSimpArgs false
set_option maxRecDepth 100000
namespace Go.Proofs.Ytbjepnneklnenaa.Rg
open Go.RowKit Go.Maps Go.Shelf Go.Lib Go.Sort Go.Proofs.Ytbjepnneklnenaa.Base Go.Proofs.Ytbjepnneklnenaa.Rws Go.Proofs.Ytbjepnneklnenaa.Crc Go.Proofs.YtbjepnneklnenaaW.PrintWords Go.Proofs.YtbjepnneklnenaaW.PrintMore
attribute [local go_sem] max2_mx min2_mn max_two min_two max_three min_three max_four min_four

/-- Share tells these loads. -/
def Shares (n2 d : Nat) (B : Option Addr) (L : List (Int × Int)) (g : Nat) (w : World) : Prop := ∀ w2, Only (fun _ => False) w w2 → Calls Try.prog 14 #[.pointer (some ⟨g, 0, none⟩), .slice B n2 d] w2 fun e w' => ∃ v, e = .returned v ∧ Ls w' (fun k => w2.heap.size ≤ k) v L ∧ Only (fun _ => False) w2 w'

theorem sum_take (f : Int → Nat) (S : List Int) (i : Nat) (m : Int) (h : S[i]? = some m) : ((S.take (i + 1)).map f).sum = ((S.take i).map f).sum + f m := by
  rw [List.take_add_one, h, Option.toList_some, List.map_append, List.sum_append]
  simp

theorem ite_sum_le {a b : Nat} (h : a ≤ 20 * b) {c : Nat} (hc : c ≤ 20) : a + c ≤ 20 * (b + 1) := by omega

set_option maxHeartbeats 8000000 in
theorem shares_may (l : List Int) (A : Option Addr) (c : Nat) (r : Nat) (B : Option Addr) (ks : List ByteArray) (d : Nat) (w : World) (hC : Kd.C KI w A l.length l) (hc : l.length ≤ c) (hs : RdS w B ks) (hz : wr l (r : Int) = 0) (hn2 : ks.length ≤ 20) :
    Calls Try.prog 6 #[.slice A l.length c, .int .i64 (r : Int), .slice B ks.length d] w fun e w' => e = .returned (.bool true) ∧ Below w.heap.size w w' := by
  have HA : Hid (∀ w, Calls Try.prog 7 #[] w fun e w' => e = .returned (.bool true) ∧ Only (fun _ => False) w w') := Lib.hid awake_p
  obtain ⟨h1, h2, h3, h4, h5⟩ := wr_zero hz
  have HW := Lib.hid (wrong_p hC hc (by omega) (r : Int))
  rw [hz] at HW
  have hrd := rd_C hC
  have HNS : Hid ((∀ k ∈ ks, k.size ≤ 100) → ∀ w1, Only (fun _ => False) w w1 → Calls Try.prog 8 #[.slice A l.length c, .int .i64 (r : Int)] w1 fun e w' => ∃ g, e = .returned (.tuple #[.pointer (some ⟨g, 0, none⟩), .int .i64 0]) ∧ Shares ks.length d B (loads (srt l) (ks.map (fun k => (ow l r (sumZ k)).1))) g w' ∧ Only (fun _ => False) w1 w') := Lib.hid (fun hk w1 ho => by
    refine (new_may A c l r w1 (hrd.only ho) hz).mono ?_
    rintro e w' ⟨g, v1, v2, rfl, hrg, ho2⟩
    exact ⟨g, rfl, fun w3 h3 => share_p (hrg.only h3 (fun _ _ _ h => h)) hz (hs.only ((ho.trans ho2).trans h3)) hn2 (fun k hk2 => by have := hk k hk2; omega), ho2⟩)
  have HD : Hid ((∀ k ∈ ks, k.size ≤ 100) → l.length ≠ 0 → ∀ w1, Only (fun _ => False) w w1 → ∀ k ∈ ks, Calls Try.prog 11 #[.slice A l.length c, .int .i64 (r : Int), .string k] w1 fun e w' => e = .returned (.int .i64 (ow l r (sumZ k)).1) ∧ Only (fun _ => False) w1 w') := Lib.hid (fun hk h0 w1 ho k hk2 => by
    have := docO_p (Kd.C_below hC (below_of ho)) hc h3 r (by omega) (bad_no h4) k (by have := hk k hk2; omega)
    unfold ow
    rw [if_neg h0]
    exact this)
  have HWO : Hid (∀ w1, Only (fun _ => False) w w1 → ∀ m, m ∈ l → Calls Try.prog 13 #[.slice A l.length c, .int .i64 m] w1 fun e w' => ∃ A' n' c', e = .returned (.slice A' n' c') ∧ n' + 1 = l.length ∧ Only (fun _ => False) w1 w') := Lib.hid (fun w1 ho m hm => by
    refine (without_p (Kd.C_below hC (below_of ho)) hc (by omega) m).mono ?_
    rintro e w' ⟨A', c', rfl, hr, h⟩
    exact ⟨A', _, c', rfl, wout_len h5 hm, h⟩)
  have HIN : Hid (l.length ≠ 0 → ∀ k, (ow l r (sumZ k)).1 ∈ srt l) := Lib.hid (fun h0 k => mem_srt.2 (ow_mem hz h0))
  have HRS := Lib.hid hs
  have HSN : Hid ((srt l).Nodup) := Lib.hid ((srt_perm l).nodup_iff.2 h5)
  have HSM : Hid (∀ m ∈ srt l, m ∈ l) := Lib.hid (fun m hm => mem_srt.1 hm)
  have HLT : Hid (∀ i a b, (srt l)[i]? = some a → (srt l)[i + 1]? = some b → a < b) := Lib.hid (fun i a b => srt_lt h5)
  have HSL : Hid ((srt l).length = l.length) := Lib.hid (srt_len l)
  obtain ⟨own, hown⟩ : ∃ own, own = fun k => (ow l r (sumZ k)).1 := ⟨_, rfl⟩
  have hown2 : ∀ k, (ow l r (sumZ k)).1 = own k := fun k => by rw [hown]
  simp only [hown2] at HNS HD HIN
  obtain ⟨sl, hsl⟩ : ∃ sl, sl = srt l := ⟨_, rfl⟩
  rw [← hsl] at HNS HIN HSN HSM HLT HSL
  obtain ⟨n, hn⟩ : ∃ n, n = l.length := ⟨_, rfl⟩
  rw [← hn] at HNS HD HWO HIN HSL HW h3 ⊢
  obtain ⟨n2, hnk⟩ : ∃ n2, n2 = ks.length := ⟨_, rfl⟩
  have HN2 := Lib.hid hnk
  rw [← hnk] at HNS hn2 ⊢
  have g1 : ¬ (64 : Int) < (n : Int) := by omega
  have g2 : ¬ (20 : Int) < (n2 : Int) := by omega
  clear hC hc hs hz h1 h2 h4 h5 hrd hown hown2 hsl hn hnk
  go_enter Try.func6, Try.ntmps6
  go_upto_region 3 with (go_at_call 9; refine HW.out.mono ?_; rintro e w1 ⟨rfl, ho⟩; have HO := Lib.hid ho; clear ho)
  clear g1 g2 HW
  go_upto_region 4 with fail
  go_loopw [7] (fun v7 wr => ∃ k : Nat, v7 = .int .i64 (k : Int) ∧ k ≤ n2 ∧ Hid (∀ x ∈ ks.take k, x.size ≤ 100) ∧ Hid (Only (fun _ => False) w wr)) (fun v7 _ => n2 - (RowKit.intOf v7).toNat)
  case atStart => exact ⟨0, rfl, Nat.zero_le _, Lib.hid (by simp), HO⟩
  case round =>
    clear HO
    obtain ⟨k, rfl, hk, HK, HO⟩ := hrel
    have hgo : k < n2 ∨ k = n2 := by omega
    rcases hgo with hlt | rfl
    · have hlt' : (k : Int) < (n2 : Int) := by omega
      obtain ⟨x, hx⟩ : ∃ x, ks[k]? = some x := ⟨_, List.getElem?_eq_getElem (by rw [← HN2.out]; exact hlt)⟩
      obtain ⟨ad, rfl, hcx⟩ := (HRS.out.only HO.out) k x hx
      have HX := Lib.hid hx
      clear hx
      by_cases hbig : 100 < x.size
      · have hbig' : (100 : Int) < (x.size : Int) := by omega
        clear hbig
        go_wp2_with (go_at_call 7; refine (HA.out _).mono ?_; rintro e w2 ⟨rfl, ho⟩; have HO2 := Lib.hid (HO.out.trans ho); clear ho)
        go_ret
        exact ⟨rfl, below_of HO2.out⟩
      · have hbig' : ¬ (100 : Int) < (x.size : Int) := by omega
        have HXS : Hid (x.size ≤ 100) := Lib.hid (by omega)
        clear hbig
        go_wp2
        go_roundw
        case rel => exact ⟨k + 1, by go_num, by omega, Lib.hid (fun y hy => by
          rw [List.take_add_one, HX.out, Option.toList_some, List.mem_append, List.mem_singleton] at hy
          rcases hy with h | h
          · exact HK.out y h
          · rw [h]; exact HXS.out), HO⟩
        case measure => simp [RowKit.intOf]; omega
    · have hge : ¬ (k : Int) < k := by omega
      have HKS : Hid (∀ x ∈ ks, x.size ≤ 100) := Lib.hid (by have := HK.out; rwa [List.take_of_length_le (by rw [← HN2.out]; exact Nat.le_refl _)] at this)
      have HNS2 := Lib.hid (HNS.out HKS.out)
      have HD2 := Lib.hid (HD.out HKS.out)
      have HOL : Hid (∀ m, (ks.map own).count m ≤ 20) := Lib.hid (fun m => by have := List.count_le_length (a := m) (l := ks.map own); rw [List.length_map, ← HN2.out] at this; omega)
      have HSUM : Hid (n ≠ 0 → (sl.map (fun m => (ks.map own).count m)).sum = k) := Lib.hid (fun h0 => by
        rw [sum_count sl HSN.out (ks.map own) (fun x hx => by
          obtain ⟨y, _, rfl⟩ := List.mem_map.1 hx
          exact HIN.out h0 y), List.length_map, ← HN2.out])
      have HTK : Hid (∀ (i : Nat) (x : ByteArray), ks[i]? = some x → (ks.map own).take (i + 1) = (ks.map own).take i ++ [own x]) := Lib.hid (fun i x hx => by
        rw [List.take_add_one, List.getElem?_map, hx]
        rfl)
      have HTE : Hid ((ks.map own).take k = ks.map own) := Lib.hid (List.take_of_length_le (by rw [List.length_map, ← HN2.out]; exact Nat.le_refl _))
      obtain ⟨os, hos⟩ : ∃ os, os = ks.map own := ⟨_, rfl⟩
      rw [← hos] at HNS2 HOL HSUM HTK HTE
      clear HK HKS HNS HD hos HIN hk
      go_upto_region 9 with (go_at_call 8; refine (HNS2.out _ HO.out).mono ?_; rintro e w2 ⟨g, rfl, hg, ho⟩; have HG := Lib.hid hg; have HO2 := Lib.hid (HO.out.trans ho); clear ho hg)
      go_upto_region 10 with (go_at_call 14; refine (HG.out _ (Only.refl _ _)).mono ?_; rintro e w3 ⟨v3, rfl, hl, ho⟩; have HL := Lib.hid hl; have HO3 := Lib.hid (HO2.out.trans ho); clear ho hl)
      have hll : (loads sl os).length = n := by unfold loads; rw [List.length_map, HSL.out]
      obtain ⟨A3, c3, hv3, _⟩ := Row.form HL.out
      rw [hll] at hv3
      subst hv3
      have HR : Hid (Row 2 40 w3 (fun k => w2.heap.size ≤ k) (.slice A3 n c3) n ((loads sl os).flatMap encL)) := Lib.hid (by have := HL.out; unfold Ls at this; rwa [hll] at this)
      clear hll HL HG HNS2 HO HO2
      go_upto_region 14 with fail
      have HO33 : Hid (Only (fun _ => False) w3 w3) := Lib.hid (Only.refl _ _)
      go_loopw [12, 11, 13, 14] (fun v12 v11 _ _ wr => ∃ (i t : Nat), v12 = .int .i64 (i : Int) ∧ v11 = .int .i64 (t : Int) ∧ i ≤ n ∧ t ≤ 20 * i ∧ Hid (t = ((sl.take i).map (fun m => os.count m)).sum) ∧ Hid (Only (fun _ => False) w3 wr)) (fun v12 _ _ _ _ => n - (RowKit.intOf v12).toNat)
      case atStart => exact ⟨0, 0, rfl, rfl, Nat.zero_le _, Nat.zero_le _, Lib.hid (by simp), HO33⟩
      case round =>
        clear HO33
        obtain ⟨i, t, rfl, rfl, hi, ht, HT, HO⟩ := hrel
        have hgo : i < n ∨ i = n := by omega
        rcases hgo with hlt | rfl
        · have hlt' : (i : Int) < (n : Int) := by omega
          obtain ⟨m, hm⟩ : ∃ m, sl[i]? = some m := ⟨_, List.getElem?_eq_getElem (by rw [HSL.out]; exact hlt)⟩
          have HMM := Lib.hid hm
          obtain ⟨q3, o3, c4, he, _⟩ := Row.some_ HR.out (by omega)
          injection he with e1 e2 e3
          subst e1 e3
          obtain ⟨ct, hct⟩ : ∃ ct, ct = os.count m := ⟨_, rfl⟩
          have hld : (loads sl os)[i]? = some (m, (ct : Int)) := by unfold loads; rw [List.getElem?_map, hm, hct]; rfl
          have KM : Hid (∀ w', Only (fun _ => False) w3 w' → w'.cell? ⟨q3, o3 + i * 2, none⟩ = some (.int .i64 m)) := Lib.hid (fun w' ho => Row.cell (Row.only HR.out ho (fun _ _ h => h)) (i * 2 + 0) (by rw [encL_at _ i 0 _ hld (by omega)]; rfl))
          have KN : Hid (∀ w', Only (fun _ => False) w3 w' → w'.cell? ⟨q3, o3 + i * 2 + 1, none⟩ = some (.int .i64 (ct : Int))) := Lib.hid (fun w' ho => Row.cell (Row.only HR.out ho (fun _ _ h => h)) (i * 2 + 1) (by rw [encL_at _ i 1 _ hld (by omega)]; rfl))
          have HCT := Lib.hid hct
          have HNN : Hid (n ≠ 0) := Lib.hid (by omega)
          clear hm hct hld
          go_upto_region 18 with fail
          go_loopw [14, 13] (fun v14 v13 wr => ∃ (j cn : Nat), v14 = .int .i64 (j : Int) ∧ v13 = .int .i64 (cn : Int) ∧ j ≤ k ∧ cn ≤ j ∧ Hid (cn = (os.take j).count m) ∧ Hid (Only (fun _ => False) w3 wr)) (fun v14 _ _ => k - (RowKit.intOf v14).toNat)
          case atStart => exact ⟨0, 0, rfl, rfl, Nat.zero_le _, Nat.le_refl _, Lib.hid (by simp), HO⟩
          case round =>
            clear HO
            obtain ⟨j, cn, rfl, rfl, hj, hcn, HCN, HO⟩ := hrel
            have hgo2 : j < k ∨ j = k := by omega
            rcases hgo2 with hlt2 | rfl
            · have hlt2' : (j : Int) < (k : Int) := by omega
              obtain ⟨x, hx⟩ : ∃ x, ks[j]? = some x := ⟨_, List.getElem?_eq_getElem (by rw [← HN2.out]; exact hlt2)⟩
              have HC : Hid (∀ w1, Only (fun _ => False) w3 w1 → Calls Try.prog 11 #[.slice A n c, .int .i64 (r : Int), .string x] w1 fun e w' => e = .returned (.int .i64 (own x)) ∧ Only (fun _ => False) w1 w') := Lib.hid (fun w1 ho => HD2.out HNN.out w1 (HO3.out.trans ho) x (List.mem_of_getElem? hx))
              have hb2 : ∃ ad, B = some ad := by obtain ⟨ad, h, _⟩ := HRS.out j x hx; exact ⟨ad, h⟩
              obtain ⟨ad, rfl⟩ := hb2
              have KX : Hid (∀ w', Only (fun _ => False) w3 w' → w'.cell? (ad.add j) = some (.string x)) := Lib.hid (fun w' ho => by
                obtain ⟨a', h, hc'⟩ := (HRS.out.only (HO3.out.trans ho)) j x hx
                injection h with h
                subst h
                exact hc')
              have HTJ := Lib.hid (HTK.out j x hx)
              obtain ⟨y, hy⟩ : ∃ y, y = own x := ⟨_, rfl⟩
              rw [← hy] at HC HTJ
              have HOc := Lib.hid HO.out
              have x1 := KM.out _ HOc.out
              have x2 := KX.out _ HOc.out
              clear hx hy
              by_cases he : y = m
              · subst he
                go_wp2_with fail
                go_region_held3 (fun w' => w'.cell? ⟨q3, o3 + i * 2, none⟩ = some (.int .i64 y) ∧ w'.cell? (ad.add j) = some (.string x)) (first | exact ⟨KM.out _ HOc.out, KX.out _ HOc.out⟩ | exact ⟨KM.out _ HOc.out.drew, KX.out _ HOc.out.drew⟩) (first
                  | (go_at_call 11; refine (HC.out _ HOc.out).mono ?_; rintro e w5 ⟨rfl, ho⟩; have HOd : Hid (Only (fun _ => False) w3 w5) := Lib.hid (HOc.out.trans ho); clear ho HOc; have HOc := HOd; clear HOd)
                  | (go_at_call 11; refine (HC.out _ HOc.out.drew).mono ?_; rintro e w5 ⟨rfl, ho⟩; have HOd : Hid (Only (fun _ => False) w3 w5) := Lib.hid (HOc.out.drew.trans ho); clear ho HOc; have HOc := HOd; clear HOd))
                all_goals
                  go_wp2
                  go_roundw
                  case rel => exact ⟨j + 1, cn + 1, by go_num, by go_num, by omega, by omega, Lib.hid (by rw [HTJ.out, List.count_append, HCN.out]; simp), (by first | exact HOc | exact Lib.hid (HOc.out.drewN _) | exact Lib.hid HOc.out.drew)⟩
                  case measure => simp [RowKit.intOf]; omega
              · go_wp2_with fail
                go_region_held3 (fun w' => w'.cell? ⟨q3, o3 + i * 2, none⟩ = some (.int .i64 m) ∧ w'.cell? (ad.add j) = some (.string x)) (first | exact ⟨KM.out _ HOc.out, KX.out _ HOc.out⟩ | exact ⟨KM.out _ HOc.out.drew, KX.out _ HOc.out.drew⟩) (first
                  | (go_at_call 11; refine (HC.out _ HOc.out).mono ?_; rintro e w5 ⟨rfl, ho⟩; have HOd : Hid (Only (fun _ => False) w3 w5) := Lib.hid (HOc.out.trans ho); clear ho HOc; have HOc := HOd; clear HOd)
                  | (go_at_call 11; refine (HC.out _ HOc.out.drew).mono ?_; rintro e w5 ⟨rfl, ho⟩; have HOd : Hid (Only (fun _ => False) w3 w5) := Lib.hid (HOc.out.drew.trans ho); clear ho HOc; have HOc := HOd; clear HOd))
                all_goals
                  go_wp2
                  go_roundw
                  case rel => exact ⟨j + 1, cn, by go_num, rfl, by omega, by omega, Lib.hid (by rw [HTJ.out, List.count_append, HCN.out, List.count_singleton, if_neg (by simp; exact he)]; simp), (by first | exact HOc | exact Lib.hid (HOc.out.drewN _) | exact Lib.hid HOc.out.drew)⟩
                  case measure => simp [RowKit.intOf]; omega
            · have hge2 : ¬ (j : Int) < j := by omega
              have hcc : cn = ct := by rw [HCN.out, HTE.out, HCT.out]
              have HCB := HOL.out m
              rw [← HCT.out] at HCB
              subst hcc
              have HTI : Hid (t + cn = ((sl.take (i + 1)).map (fun m => os.count m)).sum) := Lib.hid (by rw [sum_take _ _ _ _ HMM.out, ← HT.out, ← HCT.out])
              have HC : Hid (∀ w1, Only (fun _ => False) w3 w1 → Calls Try.prog 13 #[.slice A n c, .int .i64 m] w1 fun e w' => ∃ A' n' c', e = .returned (.slice A' n' c') ∧ n' + 1 = n ∧ Only (fun _ => False) w1 w') := Lib.hid (fun w1 ho => HWO.out w1 (HO3.out.trans ho) m (HSM.out m (List.mem_of_getElem? HMM.out)))
              have HOc := Lib.hid HO.out
              have x1 := KM.out _ HOc.out
              have x2 := KN.out _ HOc.out
              have hw24 : wrap64 ((t : Int) + (cn : Int)) = ((t + cn : Nat) : Int) := by unfold wrap64; omega
              have hwn : wrap64 ((n : Int) - 1) = (n : Int) - 1 := by unfold wrap64; omega
              have hwn2 : IntKind.i64.wrap ((n : Int) - 1) = (n : Int) - 1 := by rw [IntKind.wrap_i64]; omega
              have hti : t + cn ≤ 20 * (i + 1) := by omega
              clear HCN hcn
              by_cases hi0 : i = 0
              · have hgt : ¬ 0 < i := by omega
                have hgt2 : ¬ (0 : Int) < (i : Int) := by omega
                have HI1 : Hid (i = 0) := Lib.hid hi0
                clear hi0
                go_wp2_with fail
                refine wp_region_held_drew (S := fun w' => w'.cell? ⟨q3, o3 + i * 2, none⟩ = some (.int .i64 m) ∧ w'.cell? ⟨q3, o3 + i * 2 + 1, none⟩ = some (.int .i64 (cn : Int))) (by kernel_rfl) ⟨KM.out _ HOc.out.drew, KN.out _ HOc.out.drew⟩ (fun hHeld => ?_)
                refine wpAnyH_take (i := 0) (v := ?v0) (by (simp only [List.getElem?_toArray, List.getElem?_cons_succ, List.getElem?_cons_zero]; rfl)) (by kernel_rfl) (by kernel_rfl) (by kernel_rfl) (by exact fun _ _ _ h => h) (Or.inl ⟨by rfl, ?hy0⟩) (by assumption) ?_
                case hy0 =>
                  intro w hSw
                  (try dsimp only at hSw)
                  go_simp
                  (try with_reducible rfl)
                try simp only [Act.put, List.setIfInBounds_toArray, List.set_cons_zero, List.set_cons_succ]
                refine wpAnyH_take (i := 1) (v := ?v1) (by (simp only [List.getElem?_toArray, List.getElem?_cons_succ, List.getElem?_cons_zero]; rfl)) (by kernel_rfl) (by kernel_rfl) (by kernel_rfl) (by exact fun _ _ _ h => h) (Or.inl ⟨by rfl, ?hy1⟩) (by assumption) ?_
                case hy1 =>
                  intro w hSw
                  (try dsimp only at hSw)
                  go_simp
                  (try with_reducible rfl)
                try simp only [Act.put, List.setIfInBounds_toArray, List.set_cons_zero, List.set_cons_succ]
                refine wpAnyH_take (i := 2) (v := ?v2) (by (simp only [List.getElem?_toArray, List.getElem?_cons_succ, List.getElem?_cons_zero]; rfl)) (by kernel_rfl) (by kernel_rfl) (by kernel_rfl) (by exact fun _ _ _ h => h) (Or.inl ⟨by rfl, ?hy2⟩) (by assumption) ?_
                case hy2 =>
                  intro w hSw
                  (try dsimp only at hSw)
                  go_simp
                  (try with_reducible rfl)
                try simp only [Act.put, List.setIfInBounds_toArray, List.set_cons_zero, List.set_cons_succ]
                refine wpAnyH_take (i := 3) (v := ?v3) (by (simp only [List.getElem?_toArray, List.getElem?_cons_succ, List.getElem?_cons_zero]; rfl)) (by kernel_rfl) (by kernel_rfl) (by kernel_rfl) (by exact fun _ _ _ h => h) (Or.inl ⟨by rfl, ?hy3⟩) (by assumption) ?_
                case hy3 =>
                  intro w hSw
                  (try dsimp only at hSw)
                  go_simp
                  (try with_reducible rfl)
                try simp only [Act.put, List.setIfInBounds_toArray, List.set_cons_zero, List.set_cons_succ]
                refine wpAnyH_take (i := 4) (v := ?v4) (by (simp only [List.getElem?_toArray, List.getElem?_cons_succ, List.getElem?_cons_zero]; rfl)) (by kernel_rfl) (by kernel_rfl) (by kernel_rfl) (by exact fun _ _ _ h => h) (Or.inl ⟨by rfl, ?hy4⟩) (by assumption) ?_
                case hy4 =>
                  intro w hSw
                  (try dsimp only at hSw)
                  go_simp
                  (try with_reducible rfl)
                try simp only [Act.put, List.setIfInBounds_toArray, List.set_cons_zero, List.set_cons_succ]
                refine wpAnyH_take (i := 5) (v := ?v5) (by (simp only [List.getElem?_toArray, List.getElem?_cons_succ, List.getElem?_cons_zero]; rfl)) (by kernel_rfl) (by kernel_rfl) (by kernel_rfl) (by exact fun _ _ _ h => h) (Or.inl ⟨by rfl, ?hy5⟩) (by assumption) ?_
                case hy5 =>
                  intro w hSw
                  (try dsimp only at hSw)
                  go_simp
                  (try with_reducible rfl)
                try simp only [Act.put, List.setIfInBounds_toArray, List.set_cons_zero, List.set_cons_succ]
                refine wpAnyH_take (i := 6) (v := ?v6) (by (simp only [List.getElem?_toArray, List.getElem?_cons_succ, List.getElem?_cons_zero]; rfl)) (by kernel_rfl) (by kernel_rfl) (by kernel_rfl) (by exact fun _ _ _ h => h) (Or.inl ⟨by rfl, ?hy6⟩) (by assumption) ?_
                case hy6 =>
                  intro w hSw
                  (try dsimp only at hSw)
                  go_simp
                  (try with_reducible rfl)
                try simp only [Act.put, List.setIfInBounds_toArray, List.set_cons_zero, List.set_cons_succ]
                refine wpAnyH_take (i := 7) (v := ?v7) (by (simp only [List.getElem?_toArray, List.getElem?_cons_succ, List.getElem?_cons_zero]; rfl)) (by kernel_rfl) (by kernel_rfl) (by kernel_rfl) (by exact fun _ _ _ h => h) (Or.inl ⟨by rfl, ?hy7⟩) (by assumption) ?_
                case hy7 =>
                  intro w hSw
                  (try dsimp only at hSw)
                  go_simp
                  (try with_reducible rfl)
                try simp only [Act.put, List.setIfInBounds_toArray, List.set_cons_zero, List.set_cons_succ]
                refine wpAnyH_take (i := 8) (v := ?v8) (by (simp only [List.getElem?_toArray, List.getElem?_cons_succ, List.getElem?_cons_zero]; rfl)) (by kernel_rfl) (by kernel_rfl) (by kernel_rfl) (by exact fun _ _ _ h => h) (Or.inl ⟨by rfl, ?hy8⟩) (by assumption) ?_
                case hy8 =>
                  intro w hSw
                  (try dsimp only at hSw)
                  go_simp
                  (try with_reducible rfl)
                try simp only [Act.put, List.setIfInBounds_toArray, List.set_cons_zero, List.set_cons_succ]
                refine wpAnyH_take (i := 9) (v := ?v9) (by (simp only [List.getElem?_toArray, List.getElem?_cons_succ, List.getElem?_cons_zero]; rfl)) (by kernel_rfl) (by kernel_rfl) (by kernel_rfl) (by exact fun _ _ _ h => h) (Or.inl ⟨by rfl, ?hy9⟩) (by assumption) ?_
                case hy9 =>
                  intro w hSw
                  (try dsimp only at hSw)
                  go_simp
                  (try with_reducible rfl)
                try simp only [Act.put, List.setIfInBounds_toArray, List.set_cons_zero, List.set_cons_succ]
                refine wpAnyH_take (i := 10) (v := ?v10) (by (simp only [List.getElem?_toArray, List.getElem?_cons_succ, List.getElem?_cons_zero]; rfl)) (by kernel_rfl) (by kernel_rfl) (by kernel_rfl) (by exact fun _ _ _ h => h) (Or.inl ⟨by rfl, ?hy10⟩) (by assumption) ?_
                case hy10 =>
                  intro w hSw
                  (try dsimp only at hSw)
                  go_simp
                  (try with_reducible rfl)
                try simp only [Act.put, List.setIfInBounds_toArray, List.set_cons_zero, List.set_cons_succ]
                refine wpAnyH_take (i := 11) (v := undef) (by (simp only [List.getElem?_toArray, List.getElem?_cons_succ, List.getElem?_cons_zero]; rfl)) (by kernel_rfl) (by kernel_rfl) (by kernel_rfl) (by exact fun _ _ _ h => h) (Or.inr ⟨by rfl, rfl⟩) (by assumption) ?_
                try simp only [Act.put, List.setIfInBounds_toArray, List.set_cons_zero, List.set_cons_succ]
                refine wpAnyH_take (i := 12) (v := undef) (by (simp only [List.getElem?_toArray, List.getElem?_cons_succ, List.getElem?_cons_zero]; rfl)) (by kernel_rfl) (by kernel_rfl) (by kernel_rfl) (by exact fun _ _ _ h => h) (Or.inr ⟨by rfl, rfl⟩) (by assumption) ?_
                try simp only [Act.put, List.setIfInBounds_toArray, List.set_cons_zero, List.set_cons_succ]
                refine wpAnyH_take (i := 13) (v := undef) (by (simp only [List.getElem?_toArray, List.getElem?_cons_succ, List.getElem?_cons_zero]; rfl)) (by kernel_rfl) (by kernel_rfl) (by kernel_rfl) (by exact fun _ _ _ h => h) (Or.inr ⟨by rfl, rfl⟩) (by assumption) ?_
                try simp only [Act.put, List.setIfInBounds_toArray, List.set_cons_zero, List.set_cons_succ]
                refine wpAnyH_take (i := 14) (v := undef) (by (simp only [List.getElem?_toArray, List.getElem?_cons_succ, List.getElem?_cons_zero]; rfl)) (by kernel_rfl) (by kernel_rfl) (by kernel_rfl) (by exact fun _ _ _ h => h) (Or.inr ⟨by rfl, rfl⟩) (by assumption) ?_
                try simp only [Act.put, List.setIfInBounds_toArray, List.set_cons_zero, List.set_cons_succ]
                refine wpAnyH_take (i := 15) (v := undef) (by (simp only [List.getElem?_toArray, List.getElem?_cons_succ, List.getElem?_cons_zero]; rfl)) (by kernel_rfl) (by kernel_rfl) (by kernel_rfl) (by exact fun _ _ _ h => h) (Or.inr ⟨by rfl, rfl⟩) (by assumption) ?_
                try simp only [Act.put, List.setIfInBounds_toArray, List.set_cons_zero, List.set_cons_succ]
                refine wpAnyH_take (i := 16) (v := undef) (by (simp only [List.getElem?_toArray, List.getElem?_cons_succ, List.getElem?_cons_zero]; rfl)) (by kernel_rfl) (by kernel_rfl) (by kernel_rfl) (by exact fun _ _ _ h => h) (Or.inr ⟨by rfl, rfl⟩) (by assumption) ?_
                try simp only [Act.put, List.setIfInBounds_toArray, List.set_cons_zero, List.set_cons_succ]
                refine wpAnyH_take (i := 17) (v := undef) (by (simp only [List.getElem?_toArray, List.getElem?_cons_succ, List.getElem?_cons_zero]; rfl)) (by kernel_rfl) (by kernel_rfl) (by kernel_rfl) (by exact fun _ _ _ h => h) (Or.inr ⟨by rfl, rfl⟩) (by assumption) ?_
                try simp only [Act.put, List.setIfInBounds_toArray, List.set_cons_zero, List.set_cons_succ]
                refine wpAnyH_take (i := 18) (v := undef) (by (simp only [List.getElem?_toArray, List.getElem?_cons_succ, List.getElem?_cons_zero]; rfl)) (by kernel_rfl) (by kernel_rfl) (by kernel_rfl) (by exact fun _ _ _ h => h) (Or.inr ⟨by rfl, rfl⟩) (by assumption) ?_
                try simp only [Act.put, List.setIfInBounds_toArray, List.set_cons_zero, List.set_cons_succ]
                refine wpAnyH_take (i := 19) (v := undef) (by (simp only [List.getElem?_toArray, List.getElem?_cons_succ, List.getElem?_cons_zero]; rfl)) (by kernel_rfl) (by kernel_rfl) (by kernel_rfl) (by exact fun _ _ _ h => h) (Or.inr ⟨by rfl, rfl⟩) (by assumption) ?_
                try simp only [Act.put, List.setIfInBounds_toArray, List.set_cons_zero, List.set_cons_succ]
                refine wpAnyH_take (i := 20) (v := undef) (by (simp only [List.getElem?_toArray, List.getElem?_cons_succ, List.getElem?_cons_zero]; rfl)) (by kernel_rfl) (by kernel_rfl) (by kernel_rfl) (by exact fun _ _ _ h => h) (Or.inr ⟨by rfl, rfl⟩) (by assumption) ?_
                try simp only [Act.put, List.setIfInBounds_toArray, List.set_cons_zero, List.set_cons_succ]
                refine wpAnyH_take (i := 21) (v := undef) (by (simp only [List.getElem?_toArray, List.getElem?_cons_succ, List.getElem?_cons_zero]; rfl)) (by kernel_rfl) (by kernel_rfl) (by kernel_rfl) (by exact fun _ _ _ h => h) (Or.inr ⟨by rfl, rfl⟩) (by assumption) ?_
                try simp only [Act.put, List.setIfInBounds_toArray, List.set_cons_zero, List.set_cons_succ]
                refine wpAnyH_take (i := 22) (v := undef) (by (simp only [List.getElem?_toArray, List.getElem?_cons_succ, List.getElem?_cons_zero]; rfl)) (by kernel_rfl) (by kernel_rfl) (by kernel_rfl) (by exact fun _ _ _ h => h) (Or.inr ⟨by rfl, rfl⟩) (by assumption) ?_
                try simp only [Act.put, List.setIfInBounds_toArray, List.set_cons_zero, List.set_cons_succ]
                refine wpAnyH_take (i := 23) (v := ?v23) (by (simp only [List.getElem?_toArray, List.getElem?_cons_succ, List.getElem?_cons_zero]; rfl)) (by kernel_rfl) (by kernel_rfl) (by kernel_rfl) (by exact fun _ _ _ h => h) (Or.inl ⟨by rfl, ?hy23⟩) (by assumption) ?_
                case hy23 =>
                  intro w hSw
                  (try dsimp only at hSw)
                  go_simp
                  (try with_reducible rfl)
                try simp only [Act.put, List.setIfInBounds_toArray, List.set_cons_zero, List.set_cons_succ]
                refine wpAnyH_take (i := 24) (v := ?v24) (by (simp only [List.getElem?_toArray, List.getElem?_cons_succ, List.getElem?_cons_zero]; rfl)) (by kernel_rfl) (by kernel_rfl) (by kernel_rfl) (by exact fun _ _ _ h => h) (Or.inl ⟨by rfl, ?hy24⟩) (by assumption) ?_
                case hy24 =>
                  intro w hSw
                  (try dsimp only at hSw)
                  go_simp
                  (try with_reducible rfl)
                try simp only [Act.put, List.setIfInBounds_toArray, List.set_cons_zero, List.set_cons_succ]
                refine wpAnyH_take (i := 25) (v := ?v25) (by (simp only [List.getElem?_toArray, List.getElem?_cons_succ, List.getElem?_cons_zero]; rfl)) (by kernel_rfl) (by kernel_rfl) (by kernel_rfl) (by exact fun _ _ _ h => h) (Or.inl ⟨by rfl, ?hy25⟩) (by assumption) ?_
                case hy25 =>
                  intro w hSw
                  (try dsimp only at hSw)
                  go_simp
                  (try with_reducible rfl)
                try simp only [Act.put, List.setIfInBounds_toArray, List.set_cons_zero, List.set_cons_succ]
                refine wpAnyH_take (i := 26) (v := ?v26) (by (simp only [List.getElem?_toArray, List.getElem?_cons_succ, List.getElem?_cons_zero]; rfl)) (by kernel_rfl) (by kernel_rfl) (by kernel_rfl) (by exact fun _ _ _ h => h) (Or.inl ⟨by rfl, ?hy26⟩) (by assumption) ?_
                case hy26 =>
                  intro w hSw
                  (try dsimp only at hSw)
                  go_simp
                  (try with_reducible rfl)
                try simp only [Act.put, List.setIfInBounds_toArray, List.set_cons_zero, List.set_cons_succ]
                refine wpAnyH_take (i := 27) (v := ?v27) (by (simp only [List.getElem?_toArray, List.getElem?_cons_succ, List.getElem?_cons_zero]; rfl)) (by kernel_rfl) (by kernel_rfl) (by kernel_rfl) (by exact fun _ _ _ h => h) (Or.inl ⟨by rfl, ?hy27⟩) (by assumption) ?_
                case hy27 =>
                  intro w hSw
                  (try dsimp only at hSw)
                  go_simp
                  (try with_reducible rfl)
                try simp only [Act.put, List.setIfInBounds_toArray, List.set_cons_zero, List.set_cons_succ]
                refine wpAnyH_take (i := 28) (v := ?v28) (by (simp only [List.getElem?_toArray, List.getElem?_cons_succ, List.getElem?_cons_zero]; rfl)) (by kernel_rfl) (by kernel_rfl) (by kernel_rfl) (by exact fun _ _ _ h => h) (Or.inl ⟨by rfl, ?hy28⟩) (by assumption) ?_
                case hy28 =>
                  intro w hSw
                  (try dsimp only at hSw)
                  go_simp
                  (try with_reducible rfl)
                try simp only [Act.put, List.setIfInBounds_toArray, List.set_cons_zero, List.set_cons_succ]
                refine wpAnyH_take (i := 29) (v := ?v29) (by (simp only [List.getElem?_toArray, List.getElem?_cons_succ, List.getElem?_cons_zero]; rfl)) (by kernel_rfl) (by kernel_rfl) (by kernel_rfl) (by exact fun _ _ _ h => h) (Or.inl ⟨by rfl, ?hy29⟩) (by assumption) ?_
                case hy29 =>
                  intro w hSw
                  (try dsimp only at hSw)
                  go_simp
                  (try with_reducible rfl)
                try simp only [Act.put, List.setIfInBounds_toArray, List.set_cons_zero, List.set_cons_succ]
                refine wpAnyH_take (i := 30) (v := ?v30) (by (simp only [List.getElem?_toArray, List.getElem?_cons_succ, List.getElem?_cons_zero]; rfl)) (by kernel_rfl) (by kernel_rfl) (by kernel_rfl) (by exact fun _ _ _ h => h) (Or.inl ⟨by rfl, ?hy30⟩) (by assumption) ?_
                case hy30 =>
                  intro w hSw
                  (try dsimp only at hSw)
                  go_simp
                  (try with_reducible rfl)
                try simp only [Act.put, List.setIfInBounds_toArray, List.set_cons_zero, List.set_cons_succ]
                refine wpAnyH_take (i := 31) (v := ?v31) (by (simp only [List.getElem?_toArray, List.getElem?_cons_succ, List.getElem?_cons_zero]; rfl)) (by kernel_rfl) (by kernel_rfl) (by kernel_rfl) (by exact fun _ _ _ h => h) (Or.inl ⟨by rfl, ?hy31⟩) (by assumption) ?_
                case hy31 =>
                  intro w hSw
                  (try dsimp only at hSw)
                  go_simp
                  (try with_reducible rfl)
                try simp only [Act.put, List.setIfInBounds_toArray, List.set_cons_zero, List.set_cons_succ]
                refine wpAnyH_take (i := 34) (v := ?v34) (by (simp only [List.getElem?_toArray, List.getElem?_cons_succ, List.getElem?_cons_zero]; rfl)) (by kernel_rfl) (by kernel_rfl) (by kernel_rfl) (by exact fun _ _ _ h => h) (Or.inl ⟨by rfl, ?hy34⟩) (by assumption) ?_
                case hy34 =>
                  intro w hSw
                  (try dsimp only at hSw)
                  go_simp
                  (try with_reducible rfl)
                try simp only [Act.put, List.setIfInBounds_toArray, List.set_cons_zero, List.set_cons_succ]
                refine wpAnyH_take (i := 35) (v := ?v35) (by (simp only [List.getElem?_toArray, List.getElem?_cons_succ, List.getElem?_cons_zero]; rfl)) (by kernel_rfl) (by kernel_rfl) (by kernel_rfl) (by exact fun _ _ _ h => h) (Or.inl ⟨by rfl, ?hy35⟩) (by assumption) ?_
                case hy35 =>
                  intro w hSw
                  (try dsimp only at hSw)
                  go_simp
                  (try with_reducible rfl)
                try simp only [Act.put, List.setIfInBounds_toArray, List.set_cons_zero, List.set_cons_succ]
                refine wpAnyH_take (i := 36) (v := ?v36) (by (simp only [List.getElem?_toArray, List.getElem?_cons_succ, List.getElem?_cons_zero]; rfl)) (by kernel_rfl) (by kernel_rfl) (by kernel_rfl) (by exact fun _ _ _ h => h) (Or.inl ⟨by rfl, ?hy36⟩) (by assumption) ?_
                case hy36 =>
                  intro w hSw
                  (try dsimp only at hSw)
                  go_simp
                  (try with_reducible rfl)
                try simp only [Act.put, List.setIfInBounds_toArray, List.set_cons_zero, List.set_cons_succ]
                refine wpAnyH_ready (rs := [32]) (by kernel_rfl) (by simp) ?_
                refine AllReadyH.cons (by (simp only [List.getElem?_toArray, List.getElem?_cons_succ, List.getElem?_cons_zero]; rfl)) (fun K hK => ?_) AllReadyH.nil
                go_simp
                go_at_call 13
                (first | with_reducible refine (HC.out _ HOc.out.drew).mono ?_ | with_reducible refine (HC.out _ HOc.out).mono ?_)
                rintro e w5 ⟨A', n', c', rfl, hn', ho⟩
                have HOd : Hid (Only (fun _ => False) w3 w5) := Lib.hid (by first | exact HOc.out.drew.trans ho | exact HOc.out.trans ho)
                clear ho HOc
                have HOc := HOd
                clear HOd
                have hnn : (n' : Int) = (n : Int) - 1 := by omega
                clear hHeld hn'
                (try go_wp2_with fail)
                refine hK.out _ _ ⟨KM.out _ HOc.out, KN.out _ HOc.out⟩ (fun hHeld => ?_)
                clear hK K
                try simp only [Act.put, List.setIfInBounds_toArray, List.set_cons_zero, List.set_cons_succ]
                refine wpAnyH_take (i := 33) (v := ?v33) (by (simp only [List.getElem?_toArray, List.getElem?_cons_succ, List.getElem?_cons_zero]; rfl)) (by kernel_rfl) (by kernel_rfl) (by kernel_rfl) (by exact fun _ _ _ h => h) (Or.inl ⟨by rfl, ?hy33⟩) (by assumption) ?_
                case hy33 =>
                  intro w hSw
                  (try dsimp only at hSw)
                  go_simp
                  (try with_reducible rfl)
                try simp only [Act.put, List.setIfInBounds_toArray, List.set_cons_zero, List.set_cons_succ]
                refine wpAnyH_take (i := 37) (v := ?v37) (by (simp only [List.getElem?_toArray, List.getElem?_cons_succ, List.getElem?_cons_zero]; rfl)) (by kernel_rfl) (by kernel_rfl) (by kernel_rfl) (by exact fun _ _ _ h => h) (Or.inl ⟨by rfl, ?hy37⟩) (by assumption) ?_
                case hy37 =>
                  intro w hSw
                  (try dsimp only at hSw)
                  go_simp
                  (try with_reducible rfl)
                try simp only [Act.put, List.setIfInBounds_toArray, List.set_cons_zero, List.set_cons_succ]
                refine wpAnyH_take (i := 38) (v := ?v38) (by (simp only [List.getElem?_toArray, List.getElem?_cons_succ, List.getElem?_cons_zero]; rfl)) (by kernel_rfl) (by kernel_rfl) (by kernel_rfl) (by exact fun _ _ _ h => h) (Or.inl ⟨by rfl, ?hy38⟩) (by assumption) ?_
                case hy38 =>
                  intro w hSw
                  (try dsimp only at hSw)
                  go_simp
                  (try with_reducible rfl)
                try simp only [Act.put, List.setIfInBounds_toArray, List.set_cons_zero, List.set_cons_succ]
                refine wpAnyH_done (by kernel_rfl) ?_ _
                go_wp2
                go_roundw
                case rel => exact ⟨i + 1, t + cn, by go_num, by go_num, by omega, hti, HTI, (by first | exact HOc | exact Lib.hid (HOc.out.drewN _) | exact Lib.hid HOc.out.drew)⟩
                case measure => simp [RowKit.intOf]; omega
              · have hgt : (0 : Int) < (i : Int) := by omega
                have hgt0 : 0 < i := by omega
                obtain ⟨i', hi'⟩ : ∃ i', i = i' + 1 := ⟨i - 1, by omega⟩
                have hwi : IntKind.i64.wrap ((i : Int) - 1) = (i' : Int) := by rw [IntKind.wrap_i64]; omega
                have hlt4 : (0 : Int) ≤ (i' : Int) := by omega
                have hlt3 : (i' : Int) < (n : Int) := by omega
                obtain ⟨mp, hmp⟩ : ∃ mp, sl[i']? = some mp := ⟨_, List.getElem?_eq_getElem (by rw [HSL.out]; omega)⟩
                have hmm : decide (m ≤ mp) = false := by have := HLT.out i' mp m hmp (by rw [← hi']; exact HMM.out); exact decide_eq_false (by omega)
                have KP : Hid (∀ w', Only (fun _ => False) w3 w' → w'.cell? ⟨q3, o3 + i' * 2, none⟩ = some (.int .i64 mp)) := Lib.hid (fun w' ho => Row.cell (Row.only HR.out ho (fun _ _ h => h)) (i' * 2 + 0) (by rw [encL_at _ i' 0 (mp, (os.count mp : Nat)) (by unfold loads; rw [List.getElem?_map, hmp]; rfl) (by omega)]; rfl))
                have x3 := KP.out _ HOc.out
                clear hmp hi' hi0
                go_wp2_with fail
                go_region_held3 (fun w' => w'.cell? ⟨q3, o3 + i * 2, none⟩ = some (.int .i64 m) ∧ w'.cell? ⟨q3, o3 + i * 2 + 1, none⟩ = some (.int .i64 (cn : Int)) ∧ w'.cell? ⟨q3, o3 + i' * 2, none⟩ = some (.int .i64 mp)) (first | exact ⟨KM.out _ HOc.out, KN.out _ HOc.out, KP.out _ HOc.out⟩ | exact ⟨KM.out _ HOc.out.drew, KN.out _ HOc.out.drew, KP.out _ HOc.out.drew⟩) (first
                  | (go_at_call 13; refine (HC.out _ HOc.out).mono ?_; rintro e w5 ⟨A', n', c', rfl, hn', ho⟩; have HOd : Hid (Only (fun _ => False) w3 w5) := Lib.hid (HOc.out.trans ho); clear ho HOc; have HOc := HOd; clear HOd; have hnn : (n' : Int) = (n : Int) - 1 := by omega)
                  | (go_at_call 13; refine (HC.out _ HOc.out.drew).mono ?_; rintro e w5 ⟨A', n', c', rfl, hn', ho⟩; have HOd : Hid (Only (fun _ => False) w3 w5) := Lib.hid (HOc.out.drew.trans ho); clear ho HOc; have HOc := HOd; clear HOd; have hnn : (n' : Int) = (n : Int) - 1 := by omega))
                all_goals
                  go_wp2
                  go_roundw
                  case rel => exact ⟨i + 1, t + cn, by go_num, by go_num, by omega, hti, HTI, (by first | exact HOc | exact Lib.hid (HOc.out.drewN _) | exact Lib.hid HOc.out.drew)⟩
                  case measure => simp [RowKit.intOf]; omega
        · have hge2 : ¬ (i : Int) < i := by omega
          have hfin : t = k ∨ i = 0 := by
            by_cases h0 : i = 0
            · exact .inr h0
            · left
              rw [HT.out, List.take_of_length_le (by rw [HSL.out]; exact Nat.le_refl _)]
              exact HSUM.out h0
          have HOK : Hid (∀ w', Only (fun _ => False) w3 w' → Only (fun _ => False) w w') := Lib.hid (fun w' h => HO3.out.trans h)
          rcases hfin with rfl | rfl
          · go_wp2_with (go_at_call 7; refine (HA.out _).mono ?_; rintro e w7 ⟨rfl, ho⟩; have HO7 := Lib.hid (HOK.out _ (HO.out.trans ho)); clear ho)
            go_ret
            exact ⟨rfl, below_of HO7.out⟩
          · by_cases htk : t = k
            · subst htk
              go_wp2_with (go_at_call 7; refine (HA.out _).mono ?_; rintro e w7 ⟨rfl, ho⟩; have HO7 := Lib.hid (HOK.out _ (HO.out.trans ho)); clear ho)
              go_ret
              exact ⟨rfl, below_of HO7.out⟩
            · have htk' : ¬ (t : Int) = (k : Int) := by omega
              go_wp2_with (go_at_call 7; refine (HA.out _).mono ?_; rintro e w7 ⟨rfl, ho⟩; have HO7 := Lib.hid (HOK.out _ (HO.out.trans ho)); clear ho)
              go_ret
              exact ⟨rfl, below_of HO7.out⟩

set_option maxHeartbeats 4000000 in
theorem shares_walk (l : List Int) (A : Option Addr) (c : Nat) (R : Int) (B : Option Addr) (len d : Nat) (w : World) (hC : Kd.C KI w A l.length l) (hc : l.length ≤ c) (hs : ∃ ks : List ByteArray, ks.length = len ∧ RdS w B ks) :
    Calls Try.prog 6 #[.slice A l.length c, .int .i64 R, .slice B len d] w fun e w' => e = .returned (.bool true) ∧ Below w.heap.size w w' := by
  obtain ⟨ks, rfl, hs⟩ := hs
  have HA : Hid (∀ w, Calls Try.prog 7 #[] w fun e w' => e = .returned (.bool true) ∧ Only (fun _ => False) w w') := Lib.hid awake_p
  by_cases hbig : 64 < l.length ∨ 20 < ks.length
  · obtain ⟨n, hn⟩ : ∃ n, n = l.length := ⟨_, rfl⟩
    obtain ⟨n2, hn2⟩ : ∃ n2, n2 = ks.length := ⟨_, rfl⟩
    rw [← hn, ← hn2] at hbig ⊢
    clear hC hc hn hn2 hs
    by_cases h1 : 64 < n
    · have h1' : (64 : Int) < (n : Int) := by omega
      clear hbig
      go_enter Try.func6, Try.ntmps6
      go_wp2_with (go_at_call 7; refine (HA.out _).mono ?_; rintro e w1 ⟨rfl, ho⟩; have HO := Lib.hid ho; clear ho)
      go_ret
      exact ⟨rfl, below_of HO.out⟩
    · have h1' : ¬ (64 : Int) < (n : Int) := by omega
      have h2' : (20 : Int) < (n2 : Int) := by omega
      clear hbig
      go_enter Try.func6, Try.ntmps6
      go_wp2_with (go_at_call 7; refine (HA.out _).mono ?_; rintro e w1 ⟨rfl, ho⟩; have HO := Lib.hid ho; clear ho)
      go_ret
      exact ⟨rfl, below_of HO.out⟩
  · by_cases hz : wr l R = 0
    · obtain ⟨h1, h2, h3, h4, h5⟩ := wr_zero hz
      obtain ⟨r, rfl⟩ : ∃ r : Nat, R = (r : Int) := ⟨R.toNat, by omega⟩
      exact shares_may l A c r B ks d w hC hc hs hz (by omega)
    · have HW := Lib.hid (wrong_p hC hc (by omega) R)
      obtain ⟨x, hx⟩ : ∃ x, x = wr l R := ⟨_, rfl⟩
      rw [← hx] at HW hz
      obtain ⟨n, hn⟩ : ∃ n, n = l.length := ⟨_, rfl⟩
      obtain ⟨n2, hn2⟩ : ∃ n2, n2 = ks.length := ⟨_, rfl⟩
      rw [← hn, ← hn2] at hbig
      rw [← hn] at HW
      rw [← hn, ← hn2]
      have g1 : ¬ (64 : Int) < (n : Int) := by omega
      have g2 : ¬ (20 : Int) < (n2 : Int) := by omega
      clear hC hc hs hbig hx hn hn2
      go_enter Try.func6, Try.ntmps6
      go_wp2_with (first
        | (go_at_call 9; refine HW.out.mono ?_; rintro e w2 ⟨rfl, ho⟩; have HO := Lib.hid ho; clear ho)
        | (go_at_call 7; refine (HA.out _).mono ?_; rintro e w2 ⟨rfl, ho⟩; have HO2 := Lib.hid (HO.out.trans ho); clear ho HO; have HO := HO2; clear HO2))
      go_ret
      exact ⟨rfl, below_of HO.out⟩
end Go.Proofs.Ytbjepnneklnenaa.Rg

/- Hist: all, and the document's Put and Rising. -/
import Derived.Test.YtognnjhphnhbfaaHiF
set_option linter.unusedVariables false
set_option linter.unusedSimpArgs false
namespace Go.Proofs.Ytognnjhphnhbfaa.Hi
open Go.RowKit Go.Maps Go.Proofs.Ytognnjhphnhbfaa.Base Go.Proofs.Ytognnjhphnhbfaa.Rws Go.Proofs.YtognnjhphnhbfaaW.PrintWords Go.Proofs.YtognnjhphnhbfaaW.PrintMore
attribute [local go_sem] max2_mx min2_mn max_two min_two max_three min_three max_four min_four

abbrev KI : Kd Int := Kd.int .i64

theorem ks_C {w : World} {P : Nat → Prop} {A : Option Addr} {n c : Nat} {L : List Int} (h : Ks w P (.slice A n c) L) (hl : L.length ≤ 100000) : n = L.length ∧ n ≤ c ∧ Kd.C KI w A n L := by
  rcases h with ⟨h, h0, hx⟩ | ⟨q, o, c', cells, hv, hq, hh, h1, h2, h3, h4⟩
  · injection h with e1 e2 e3
    subst e1 e2 e3
    exact ⟨h0.symm, Nat.le_refl _, by rw [show L = [] from List.length_eq_zero_iff.1 h0]; exact Kd.C_nil _ _⟩
  · injection hv with e1 e2 e3
    subst e1 e2 e3
    refine ⟨rfl, h1, Kd.C_of_reads (d := (0 : Int)) ⟨rfl, by omega, fun _ => ⟨_, rfl, fun j hj => ?_⟩⟩⟩
    rw [Addr.add_lit]
    refine cell_at hh (o + j) (h4 j _ ?_)
    rw [List.getElem?_map, List.getElem?_eq_getElem hj, List.getD_eq_getElem?_getD, List.getElem?_eq_getElem hj]
    rfl

set_option maxHeartbeats 2000000 in
set_option maxRecDepth 100000 in
theorem all_p (l : List Int) (A : Option Addr) (n c : Nat) (w : World) (hn : n = l.length) (hl : Kd.C KI w A n l) (h : n ≤ 1000) :
    Calls Try.prog 16 #[.slice A n c] w fun e w' => e = .returned (.pointer (some ⟨w.heap.size + 1, 0, none⟩)) ∧ HS w' (w.heap.size + 1) w.heap.size (l.map idx) ∧ Only (fun _ => False) w w' := by
  have HL := Lib.hid hl
  have HN := Lib.hid hn
  obtain ⟨g, hg⟩ : ∃ g, g = w.heap.size + 1 := ⟨_, rfl⟩
  obtain ⟨b, hb⟩ : ∃ b, b = w.heap.size := ⟨_, rfl⟩
  have HNE := Lib.hid (new_p w)
  rw [← hg, ← hb] at HNE ⊢
  have HGB : Hid (w.heap.size ≤ g ∧ w.heap.size ≤ b) := Lib.hid (by omega)
  clear hl hn hg hb
  go_enter Try.func16, Try.ntmps16
  go_wp2_with (go_at_call 31; refine HNE.out.mono ?_; rintro e w1 ⟨rfl, h1, o1⟩; have H1 := Lib.hid h1; have O1 := Lib.hid o1; clear h1 o1)
  go_loopw [4] (fun v4 wr => ∃ j : Nat, v4 = .int .i64 (j : Int) ∧ j ≤ n ∧ Hid (HS wr g b ((l.take j).map idx)) ∧ Hid (Only (fun _ => False) w wr)) (fun v4 _ => n - (RowKit.intOf v4).toNat)
  case atStart => exact ⟨0, rfl, Nat.zero_le _, H1, O1⟩
  case round =>
    clear H1 O1 HNE
    obtain ⟨j, rfl, hj, HH, HO⟩ := hrel
    have hgo : j < n ∨ j = n := by omega
    rcases hgo with hlt | rfl
    · have hlt' : (j : Int) < (n : Int) := by omega
      have h0' : (0 : Int) ≤ (j : Int) := by omega
      obtain ⟨ad, rfl, hx⟩ := Kd.at_int HL.out (j : Int) h0' hlt'
      have hxr : wr.cell? (ad.add j) = some (.int .i64 (rd l (j : Int))) := by
        have := (HO.out.below (Below.refl _ _) (Nat.le_refl _) (fun _ h => h.elim)).cell (World.block_lt_of_cell? w _ hx)
        rw [hx] at this
        exact this
      obtain ⟨x, hxx⟩ : ∃ x, x = rd l (j : Int) := ⟨_, rfl⟩
      rw [← hxx] at hxr
      have HTK : Hid (((l.take (j + 1)).map idx) = ((l.take j).map idx) ++ [idx x]) := Lib.hid (by
        have hjl : j < l.length := by have := HN.out; omega
        have e : l[j]? = some x := by rw [hxx, List.getElem?_eq_getElem hjl]; unfold rd; simp [hjl]
        rw [List.take_add_one, e, List.map_append]
        rfl)
      have HAD := Lib.hid (add_p wr HH.out x (by rw [List.length_map, List.length_take]; omega))
      rw [← HTK.out] at HAD
      clear hx hxx HTK
      go_wp2_with (go_at_call 28; refine HAD.out.mono ?_; rintro e w2 ⟨rfl, h2, o2⟩; have H2 := Lib.hid h2; have O2 : Hid (Only (fun _ => False) w w2) := Lib.hid (HO.out.then_ o2 (fun k hk => .inr (by have := HGB.out; omega))); clear h2 o2)
      go_roundw
      case rel => exact ⟨j + 1, by go_num, by omega, H2, O2⟩
      case measure => simp [RowKit.intOf]; omega
    · have hge : ¬ (j : Int) < j := by omega
      go_wp2
      go_ret
      have := HH.out
      rw [HN.out, List.take_length] at this
      exact ⟨rfl, this, HO.out⟩

/-- What Put gives. -/
def PutPost (w : World) (L : List Int) (e : Ending) (w' : World) : Prop :=
  ∃ v, e = .returned v ∧ Ks w' (fun k => w.heap.size ≤ k) v L ∧ Only (fun _ => False) w w'

set_option maxHeartbeats 4000000 in
set_option maxRecDepth 100000 in
theorem put_p (L : List Int) (v : Int) (A : Option Addr) (n c : Nat) (w : World) (hn : n = L.length) (hL : Kd.C KI w A n L) (h : n ≤ 1000) :
    Calls Try.prog 32 #[.slice A n c, .int .i64 v] w (PutPost w (ins (cl v) L)) := by
  have HL := Lib.hid hL
  have HN := Lib.hid hn
  obtain ⟨t, ht⟩ : ∃ t, t = cl v := ⟨_, rfl⟩
  have HC : Hid (∀ w, Calls Try.prog 15 #[.int .i64 v] w fun e w' => e = .returned (.int .i64 t) ∧ w = w') := Lib.hid (fun w => by rw [ht]; exact clampR_p v w)
  have HC2 : Hid (∀ w, Calls Try.prog 15 #[.int .i64 v] w fun e w' => e = .returned (.int .i64 t) ∧ w' = w) := Lib.hid (fun w => by rw [ht]; exact (clampR_p v w).mono fun _ _ h => ⟨h.1, h.2.symm⟩)
  rw [← ht]
  clear hL hn ht
  go_enter Try.func32, Try.ntmps32
  go_wp2
  go_loopw [5, 6, 7] (fun v5 v6 v7 wr => ∃ (j : Nat) (d : Bool) (acc : List Int), v6 = .bool d ∧ v7 = .int .i64 (j : Int) ∧ j ≤ n ∧ Hid (Ks wr (fun k => w.heap.size ≤ k) v5 acc) ∧ Hid (acc.length ≤ j + (if d then 1 else 0)) ∧ Hid ((d = false ∧ ins t L = acc ++ ins t (L.drop j)) ∨ (d = true ∧ ins t L = acc ++ L.drop j)) ∧ Hid (Only (fun _ => False) w wr)) (fun _ _ v7 _ => n - (RowKit.intOf v7).toNat)
  case atStart => exact ⟨0, false, [], rfl, rfl, Nat.zero_le _, Lib.hid (Row.nil _ _ _ _), Lib.hid (by simp), Lib.hid (.inl ⟨rfl, rfl⟩), Lib.hid (Only.refl _ _)⟩
  case round =>
    obtain ⟨j, d, acc, rfl, rfl, hj, HK, HAL, HI, HO⟩ := hrel
    have hgo : j < n ∨ j = n := by omega
    rcases hgo with hlt | rfl
    · have hlt' : (j : Int) < (n : Int) := by omega
      have h0' : (0 : Int) ≤ (j : Int) := by omega
      obtain ⟨ad, rfl, hx⟩ := Kd.at_int HL.out (j : Int) h0' hlt'
      obtain ⟨x, hxx⟩ : ∃ x, x = rd L (j : Int) := ⟨_, rfl⟩
      rw [← hxx] at hx
      have HX : Hid (∀ w', Only (fun _ => False) w w' → w'.cell? (ad.add j) = some (.int .i64 x)) := Lib.hid (fun w' ho => by
        have := (ho.below (Below.refl _ _) (Nat.le_refl _) (fun _ h => h.elim)).cell (World.block_lt_of_cell? w _ hx)
        rw [hx] at this
        exact this)
      have HDR : Hid (L.drop j = x :: L.drop (j + 1)) := Lib.hid (by
        have hjl : j < L.length := by have := HN.out; omega
        rw [List.drop_eq_getElem_cons hjl, hxx]
        unfold rd
        simp [hjl])
      have hxr := HX.out wr HO.out
      clear hx hxx
      cases d with
      | true =>
        have HI2 : Hid (ins t L = (acc ++ [x]) ++ L.drop (j + 1)) := Lib.hid (by
          rcases HI.out with ⟨h, _⟩ | ⟨_, h⟩
          · cases h
          · rw [h, HDR.out]; simp)
        go_wp2
        go_quiet ((go_at_call 15; exact Calls.quiet_of_same (HC2.out _)))
        obtain ⟨wq, hwq⟩ : ∃ x, x = wr.drewN nq := ⟨_, rfl⟩
        have HOq : Hid (Only (fun _ => False) w wq) := by rw [hwq]; exact Lib.hid (HO.out.drewN _)
        have HKq : Hid (Ks wq (fun k => w.heap.size ≤ k) u5 acc) := by rw [hwq]; exact HK
        rw [← hwq]
        clear hwq hxr
        have hxq := HX.out wq HOq.out
        have hszq := HOq.out.size
        obtain ⟨v2, w2, hr2, hK2, hO2⟩ := Ks.app (W := wq) HKq.out (fun k hk => by omega) (by have h1 := HAL.out; simp at h1; omega) x 25
        have HRR := Lib.hid hr2
        have HK2 := Lib.hid hK2
        have HO2 : Hid (Only (fun _ => False) w w2) := Lib.hid (HOq.out.then_ hO2 (fun k hk => .inr (Row.own HKq.out hk).1))
        clear hr2 hK2 hO2 hszq
        go_wp2_with ((with_reducible refine gate_builtin (b := .append) (xs := #[.tmp 30, .tmp 35]) rfl ?_); at_builtin; go_loud (refine Go.Lib.wpList_append_run_sl _ rfl (.tmp 30) (.tmp 35) 25 rfl _ _ rfl rfl HRR.out ?_))
        go_roundw
        case rel => exact ⟨j + 1, true, acc ++ [x], rfl, by go_num, by omega, HK2, Lib.hid (by have h1 := HAL.out; simp at h1; simp; omega), Lib.hid (.inr ⟨rfl, HI2.out⟩), HO2⟩
        case measure => simp [RowKit.intOf]; omega
      | false =>
        have HI1 : Hid (ins t L = acc ++ ins t (x :: L.drop (j + 1))) := Lib.hid (by
          rcases HI.out with ⟨_, h⟩ | ⟨h, _⟩
          · rw [h, HDR.out]
          · cases h)
        by_cases htx : t < x
        · have hd : decide (t < x) = true := decide_eq_true htx
          have HI2 : Hid (ins t L = ((acc ++ [t]) ++ [x]) ++ L.drop (j + 1)) := Lib.hid (by
            rw [HI1.out]
            unfold ins
            rw [if_pos htx]
            simp)
          clear htx HI1
          go_wp2
          go_quiet ((go_at_call 15; exact Calls.quiet_of_same (HC2.out _)))
          obtain ⟨wq, hwq⟩ : ∃ x, x = wr.drewN nq := ⟨_, rfl⟩
          have HOq : Hid (Only (fun _ => False) w wq) := by rw [hwq]; exact Lib.hid (HO.out.drewN _)
          have HKq : Hid (Ks wq (fun k => w.heap.size ≤ k) u5 acc) := by rw [hwq]; exact HK
          rw [← hwq]
          clear hwq hxr
          have hxq := HX.out wq HOq.out
          have hszq := HOq.out.size
          obtain ⟨v2, w2, hr2, hK2, hO2⟩ := Ks.app (W := wq) HKq.out (fun k hk => by omega) (by have h1 := HAL.out; simp at h1; omega) t 25
          have HRR := Lib.hid hr2
          have HK2 := Lib.hid hK2
          have HO2 : Hid (Only (fun _ => False) w w2) := Lib.hid (HOq.out.then_ hO2 (fun k hk => .inr (Row.own HKq.out hk).1))
          have hx2 := HX.out w2 HO2.out
          have hsz2 := HO2.out.size
          obtain ⟨v3, w3, hr3, hK3, hO3⟩ := Ks.app (W := w2) HK2.out (fun k hk => by omega) (by have h1 := HAL.out; simp at h1; simp; omega) x 25
          have HRR3 := Lib.hid hr3
          have HK3 := Lib.hid hK3
          have HO3 : Hid (Only (fun _ => False) w w3) := Lib.hid (HO2.out.then_ hO3 (fun k hk => .inr (Row.own HK2.out hk).1))
          clear hr2 hK2 hO2 hszq hr3 hK3 hO3 hsz2
          go_wp2_with (first | (go_at_call 15; refine (HC.out _).mono ?_; rintro e w' ⟨rfl, rfl⟩) | ((with_reducible refine gate_builtin (b := .append) (xs := #[.tmp 25, .tmp 28]) rfl ?_); at_builtin; go_loud (refine Go.Lib.wpList_append_run_sl _ rfl (.tmp 25) (.tmp 28) 25 rfl _ _ rfl rfl HRR.out ?_)) | ((with_reducible refine gate_builtin (b := .append) (xs := #[.tmp 30, .tmp 35]) rfl ?_); at_builtin; go_loud (refine Go.Lib.wpList_append_run_sl _ rfl (.tmp 30) (.tmp 35) 25 rfl _ _ rfl rfl HRR3.out ?_)))
          go_roundw
          case rel => exact ⟨j + 1, true, (acc ++ [t]) ++ [x], rfl, by go_num, by omega, HK3, Lib.hid (by have h1 := HAL.out; simp at h1; simp; omega), Lib.hid (.inr ⟨rfl, HI2.out⟩), HO3⟩
          case measure => simp [RowKit.intOf]; omega
        · have hd : decide (t < x) = false := decide_eq_false htx
          have HI2 : Hid (ins t L = (acc ++ [x]) ++ ins t (L.drop (j + 1))) := Lib.hid (by
            rw [HI1.out]
            conv => lhs; unfold ins
            rw [if_neg htx]
            simp)
          clear htx HI1
          go_wp2
          go_quiet ((go_at_call 15; exact Calls.quiet_of_same (HC2.out _)))
          obtain ⟨wq, hwq⟩ : ∃ x, x = wr.drewN nq := ⟨_, rfl⟩
          have HOq : Hid (Only (fun _ => False) w wq) := by rw [hwq]; exact Lib.hid (HO.out.drewN _)
          have HKq : Hid (Ks wq (fun k => w.heap.size ≤ k) u5 acc) := by rw [hwq]; exact HK
          rw [← hwq]
          clear hwq hxr
          have hxq := HX.out wq HOq.out
          have hszq := HOq.out.size
          obtain ⟨v2, w2, hr2, hK2, hO2⟩ := Ks.app (W := wq) HKq.out (fun k hk => by omega) (by have h1 := HAL.out; simp at h1; omega) x 25
          have HRR := Lib.hid hr2
          have HK2 := Lib.hid hK2
          have HO2 : Hid (Only (fun _ => False) w w2) := Lib.hid (HOq.out.then_ hO2 (fun k hk => .inr (Row.own HKq.out hk).1))
          clear hr2 hK2 hO2 hszq
          go_wp2_with ((with_reducible refine gate_builtin (b := .append) (xs := #[.tmp 30, .tmp 35]) rfl ?_); at_builtin; go_loud (refine Go.Lib.wpList_append_run_sl _ rfl (.tmp 30) (.tmp 35) 25 rfl _ _ rfl rfl HRR.out ?_))
          go_roundw
          case rel => exact ⟨j + 1, false, acc ++ [x], rfl, by go_num, by omega, HK2, Lib.hid (by have h1 := HAL.out; simp at h1; simp; omega), Lib.hid (.inl ⟨rfl, HI2.out⟩), HO2⟩
          case measure => simp [RowKit.intOf]; omega
    · have hge : ¬ (j : Int) < j := by omega
      have hnil : L.drop j = [] := List.drop_eq_nil_of_le (by have := HN.out; omega)
      cases d with
      | true =>
        have HI2 : Hid (ins t L = acc) := Lib.hid (by
          rcases HI.out with ⟨h, _⟩ | ⟨_, h⟩
          · cases h
          · rw [h, hnil]; simp)
        clear hnil
        go_wp2
        go_ret
        exact ⟨_, rfl, by rw [HI2.out]; exact HK.out, HO.out⟩
      | false =>
        have HI2 : Hid (ins t L = acc ++ [t]) := Lib.hid (by
          rcases HI.out with ⟨_, h⟩ | ⟨h, _⟩
          · rw [h, hnil]; rfl
          · cases h)
        have hsz := HO.out.size
        obtain ⟨v2, w2, hr2, hK2, hO2⟩ := Ks.app (W := wr) HK.out (fun k hk => by omega) (by have h1 := HAL.out; simp at h1; omega) t 25
        have HRR := Lib.hid hr2
        have HK2 := Lib.hid hK2
        have HO2 : Hid (Only (fun _ => False) w w2) := Lib.hid (HO.out.then_ hO2 (fun k hk => .inr (Row.own HK.out hk).1))
        clear hr2 hK2 hO2 hsz hnil
        go_wp2_with (first | (go_at_call 15; refine (HC.out _).mono ?_; rintro e w' ⟨rfl, rfl⟩) | ((with_reducible refine gate_builtin (b := .append) (xs := #[.tmp 39, .tmp 42]) rfl ?_); at_builtin; go_loud (refine Go.Lib.wpList_append_run_sl _ rfl (.tmp 39) (.tmp 42) 25 rfl _ _ rfl rfl HRR.out ?_)))
        go_ret
        exact ⟨_, rfl, by rw [HI2.out]; exact HK2.out, HO2.out⟩


theorem rising_snoc (l : List Int) (x : Int) : rising (l ++ [x]) = ins (cl x) (rising l) := by
  unfold rising
  rw [List.foldl_append]
  rfl

set_option maxHeartbeats 4000000 in
set_option maxRecDepth 100000 in
theorem rising_p (l : List Int) (A : Option Addr) (n c : Nat) (w : World) (hn : n = l.length) (hl : Kd.C KI w A n l) (h : n ≤ 900) :
    Calls Try.prog 17 #[.slice A n c] w (PutPost w (rising l)) := by
  have HL := Lib.hid hl
  have HN := Lib.hid hn
  clear hl hn
  go_enter Try.func17, Try.ntmps17
  go_wp2
  go_loopw [3, 4] (fun v3 v4 wr => ∃ j : Nat, v4 = .int .i64 (j : Int) ∧ j ≤ n ∧ Hid (Ks wr (fun k => w.heap.size ≤ k) v3 (rising (l.take j))) ∧ Hid (Only (fun _ => False) w wr)) (fun _ v4 _ => n - (RowKit.intOf v4).toNat)
  case atStart => exact ⟨0, rfl, Nat.zero_le _, Lib.hid (Row.nil _ _ _ _), Lib.hid (Only.refl _ _)⟩
  case round =>
    obtain ⟨j, rfl, hj, HK, HO⟩ := hrel
    have hgo : j < n ∨ j = n := by omega
    rcases hgo with hlt | rfl
    · have hlt' : (j : Int) < (n : Int) := by omega
      have h0' : (0 : Int) ≤ (j : Int) := by omega
      obtain ⟨ad, rfl, hx⟩ := Kd.at_int HL.out (j : Int) h0' hlt'
      obtain ⟨x, hxx⟩ : ∃ x, x = rd l (j : Int) := ⟨_, rfl⟩
      rw [← hxx] at hx
      have hxr : wr.cell? (ad.add j) = some (.int .i64 x) := by
        have := (HO.out.below (Below.refl _ _) (Nat.le_refl _) (fun _ h => h.elim)).cell (World.block_lt_of_cell? w _ hx)
        rw [hx] at this
        exact this
      have HTK : Hid (rising (l.take (j + 1)) = ins (cl x) (rising (l.take j))) := Lib.hid (by
        have hjl : j < l.length := by have := HN.out; omega
        have e : l[j]? = some x := by rw [hxx, List.getElem?_eq_getElem hjl]; unfold rd; simp [hjl]
        rw [List.take_add_one, e]
        exact rising_snoc _ _)
      have hrl : (rising (l.take j)).length ≤ 1000 := by rw [rising_len, List.length_take]; omega
      obtain ⟨A3, c3, e3, _⟩ := HK.out.form
      have HKC := ks_C (by have h1 := HK.out; rw [e3] at h1; exact h1) (by omega)
      subst e3
      have HPU := Lib.hid (put_p (rising (l.take j)) x A3 _ c3 wr rfl HKC.2.2 hrl)
      rw [← HTK.out] at HPU
      clear hx hxx HTK HKC hrl
      generalize (rising (l.take j)).length = m3 at *
      go_wp2_with (go_at_call 32; refine HPU.out.mono ?_; rintro e w2 ⟨v2, rfl, h2, o2⟩; have H2 := Lib.hid h2; have O2 := Lib.hid o2; clear h2 o2)
      go_roundw
      case rel => exact ⟨j + 1, by go_num, by omega, Lib.hid (Row.to H2.out (fun k hk => Nat.le_trans HO.out.size (Row.own H2.out hk).1)), Lib.hid (HO.out.trans O2.out)⟩
      case measure => simp [RowKit.intOf]; omega
    · have hge : ¬ (j : Int) < j := by omega
      have HK2 : Hid (Ks wr (fun k => w.heap.size ≤ k) u3 (rising l)) := Lib.hid (by have := HK.out; rw [HN.out, List.take_length] at this; exact this)
      go_wp2
      go_ret
      exact ⟨_, rfl, HK2.out, HO.out⟩

end Go.Proofs.Ytognnjhphnhbfaa.Hi

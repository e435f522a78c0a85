/- TurnsCycle and TurnsFair return true, of any weights. -/
import Derived.Test.YtpophcmdhpechaaTurPl
set_option linter.unusedVariables false
set_option linter.unusedSimpArgs false
set_option maxRecDepth 100000
namespace Go.Proofs.Ytpophcmdhpechaa.Tur
open Go.RowKit Go.Proofs.Ytpophcmdhpechaa.Base Go.Proofs.YtpophcmdhpechaaW.PrintWords Go.Proofs.YtpophcmdhpechaaW.PrintMore
attribute [local go_sem] max2_mx min2_mn max_two min_two max_three min_three max_four min_four

/-- What places have behind so many turns, and whose turn it was. -/
def hvS (ws : List Int) : Nat → List Int
  | 0 => List.replicate ws.length 0
  | k + 1 => aft ws (hvS ws k)
def seq (ws : List Int) : Nat → List Int
  | 0 => []
  | k + 1 => seq ws k ++ [((nxt ws (hvS ws k) : Nat) : Int)]

theorem seq_len (ws : List Int) : ∀ k, (seq ws k).length = k
  | 0 => rfl
  | k + 1 => by rw [seq, List.length_append, seq_len ws k]; rfl

theorem seq_behind {ws : List Int} (h : Ok ws) : ∀ k, Behind ws (hvS ws k) (seq ws k)
  | 0 => Behind.start h
  | k + 1 => (seq_behind h k).next h

theorem rd_append_lt (xs ys : List Int) (k : Nat) (h : k < xs.length) : rd (xs ++ ys) (k : Int) = rd xs (k : Int) := by
  unfold rd; rw [Int.toNat_natCast, List.getD_eq_getElem?_getD, List.getD_eq_getElem?_getD, List.getElem?_append_left h]

theorem seq_at (ws : List Int) : ∀ n k, k < n → rd (seq ws n) (k : Int) = (nxt ws (hvS ws k) : Nat)
  | 0, k, h => by omega
  | n + 1, k, h => by
    rw [seq]
    by_cases c : k = n
    · subst c
      unfold rd
      rw [Int.toNat_natCast, List.getD_eq_getElem?_getD, List.getElem?_append_right (by rw [seq_len]; omega), seq_len]
      simp
    · rw [rd_append_lt _ _ _ (by rw [seq_len]; omega)]
      exact seq_at ws n k (by omega)

theorem right_no2 (ws : List Int) (A : Option Addr) (c : Nat) (w : World) (hr : Kd.C (Kd.int .i64) w A ws.length ws) (hno : ¬ Ok ws) :
    Calls Try.prog 19 #[.slice A ws.length c] w fun e w' => e = .returned (.bool false) ∧ w = w' := by
  by_cases h : ws.length ≤ 70
  · exact right_no ws A c w hr h hno
  · have h64' : (64 : Int) < ws.length := by omega
    clear hr hno
    go_enter Try.func19, Try.ntmps19
    go_wp2
    go_ret
    exact ⟨rfl, rfl⟩

theorem cyc_no (ws : List Int) (A : Option Addr) (c : Nat) (w : World) (hr : Kd.C (Kd.int .i64) w A ws.length ws) (hno : ¬ Ok ws) :
    Calls Try.prog 6 #[.slice A ws.length c] w fun e w' => e = .returned (.bool true) ∧ Below w.heap.size w w' := by
  have HR := Lib.hid hr
  have HN := Lib.hid hno
  clear hr hno
  go_enter Try.func6, Try.ntmps6
  go_wp2_with (first | (go_at_call 19; refine (right_no2 ws _ _ _ HR.out HN.out).mono ?_; rintro e w' ⟨rfl, rfl⟩) | (go_at_call 17; refine (awake_p _).mono ?_; rintro e w5 ⟨rfl, ho5⟩; have HO5 := Lib.hid ho5; clear ho5))
  go_ret
  exact ⟨rfl, HO5.out⟩

theorem cyc_big (ws : List Int) (A : Option Addr) (c : Nat) (w : World) (hr : Kd.C (Kd.int .i64) w A ws.length ws) (hok : Ok ws) (hb : 300 < cyc ws) :
    Calls Try.prog 6 #[.slice A ws.length c] w fun e w' => e = .returned (.bool true) ∧ Below w.heap.size w w' := by
  have HR := Lib.hid hr
  have HN := Lib.hid hok
  clear hr hok
  go_enter Try.func6, Try.ntmps6
  go_wp2_with (first | (go_at_call 19; refine (right_ok ws _ _ _ HR.out HN.out).mono ?_; rintro e w' ⟨rfl, rfl⟩) | (go_at_call 23; refine (cycle_r ws _ _ _ HR.out HN.out.mid).mono ?_; rintro e w' ⟨rfl, rfl⟩) | (go_at_call 17; refine (awake_p _).mono ?_; rintro e w5 ⟨rfl, ho5⟩; have HO5 := Lib.hid ho5; clear ho5))
  go_ret
  exact ⟨rfl, HO5.out⟩

set_option maxHeartbeats 4000000 in
theorem cyc_ok (ws : List Int) (ad : Addr) (c : Nat) (w : World) (hr : Kd.C (Kd.int .i64) w (some ad) ws.length ws) (hok : Ok ws) (hsm : cyc ws ≤ 300) :
    Calls Try.prog 6 #[.slice (some ad) ws.length c] w fun e w' => e = .returned (.bool true) ∧ Below w.heap.size w w' := by
  have HR := Lib.hid hr
  have HOK := Lib.hid hok
  have h64 := hok.n
  have hpos := hok.pos
  have hcp := hok.c
  have h3 : ¬ 300 < cyc ws := by omega
  have HN : Hid (∀ k : Nat, (k : Int) ≤ 300 → Near ws (hvS ws k)) := Lib.hid (fun k hk j hj => (seq_behind HOK.out k).near HOK.out (by rw [seq_len]; omega) j hj)
  clear hr hok
  go_enter Try.func6, Try.ntmps6
  go_wp2_with (first | (go_at_call 18; refine (new_ok ws ad _ _ HR.out HOK.out).mono ?_; rintro e w1 ⟨p, a, b, ca, rfl, hT, hB, hp, ha, hb⟩; have HT := Lib.hid hT; have HB := Lib.hid hB; clear hT hB) | (go_at_call 19; refine (right_ok ws _ _ _ HR.out HOK.out).mono ?_; rintro e w' ⟨rfl, rfl⟩) | (go_at_call 23; refine (cycle_r ws _ _ _ HR.out HOK.out.mid).mono ?_; rintro e w' ⟨rfl, rfl⟩))
  go_loopw [5, 6] (fun v5 vi wr => ∃ (k : Nat) (A2 : Option Addr) (c2 : Nat), v5 = .slice A2 k c2 ∧ vi = .int .i64 (k : Int) ∧ (k : Int) ≤ cyc ws ∧ Hid (TK ws (hvS ws k) p a b ca wr) ∧ Hid (Kd.R (Kd.int .i64) 3 wr w.heap.size (Away p a b) (.slice A2 k c2) (seq ws k)) ∧ Hid (Below w.heap.size w wr)) (fun _ vi _ => (cyc ws - intOf vi).toNat)
  case atStart => exact ⟨0, none, 0, rfl, rfl, by omega, HT, Lib.hid (Kd.R_nil _ _ _ _ _), HB⟩
  case round =>
    obtain ⟨k, A2, c2, rfl, rfl, hk, HTr, HRl, HBr⟩ := hrel
    have hgo : (k : Int) < cyc ws ∨ (k : Int) = cyc ws := by omega
    have HRr : Hid (Kd.C (Kd.int .i64) wr (some ad) ws.length ws) := Lib.hid (Kd.C_below HR.out HBr.out)
    have hlw := HBr.out.size
    rcases hgo with hlt | heq
    · have HL := Lib.hid (seq_len ws k)
      have HNk := Lib.hid (HN.out k (by omega))
      go_wp2_with (first | (go_at_call 23; refine (cycle_r ws _ _ _ HRr.out HOK.out.mid).mono ?_; rintro e w' ⟨rfl, rfl⟩) | (go_at_call 20; refine (next_p ws (hvS ws k) p a b ca _ HTr.out HOK.out HNk.out).mono ?_; rintro e w2 ⟨rfl, ht2, ho2⟩; have HT2 := Lib.hid ht2; have HR2 := Lib.hid (row_only HRl.out ho2); have HB2 := Lib.hid (ho2.below HBr.out HBr.out.size (fun _ h => by omega)); clear ht2 ho2) | ((with_reducible refine gate_builtin (b := .append) (xs := #[.tmp 31, .tmp 34]) rfl ?_); at_builtin; refine Kd.R_append (Kd.int .i64) (w0 := w) w.heap.size rfl (.tmp 31) (.tmp 34) 34 3 (.int .i64 0) 8 rfl Try.underlying34 info3 rfl (by decide) (by omega) (.slice A2 k c2) (seq ws k) (nxt ws (hvS ws k) : Nat) [.int .i64 (nxt ws (hvS ws k) : Nat)] (Away p a b) (fun _ => False) rfl rfl ?aP (fun _ hk => hk.elim) ?aF ?aO ?aB ?aS ?aL ?_; (case aP => exact rfl); (case aF => exact away_new HT2.out (HT2.out.a_lt hpos)); (case aO => exact HR2.out); (case aB => exact HB2.out); (case aS => exact HB2.out.size); (case aL => rw [HL.out]; omega); intro v4 w4 ho4 hb4 hg4 hat4; obtain ⟨A4, c4, e4⟩ := Kd.R_slice ho4; rw [List.length_append, HL.out, List.length_singleton] at e4; subst e4; have HR4 := Lib.hid ho4; have HB4 := Lib.hid hb4; have HT4 := Lib.hid (HT2.out.grown HR2.out hg4); clear ho4 hb4 hg4 hat4))
      go_roundw
      case rel => exact ⟨k + 1, A4, c4, rfl, by go_num, by omega, HT4, HR4, HB4⟩
      case measure => simp [intOf]; omega
    · have HCY : Hid ((∀ i, i < ws.length → cnt (seq ws k) i = rd ws (i : Int)) ∧ hvS ws k = List.replicate ws.length 0) := Lib.hid ((seq_behind HOK.out k).cycle HOK.out (by rw [seq_len]; exact heq))
      have hkn : ¬ (k : Int) < cyc ws := by omega
      have hk3 : (k : Int) ≤ 300 := by omega
      have HL := Lib.hid (seq_len ws k)
      have HTz : Hid (TK ws (hvS ws 0) p a b ca wr) := Lib.hid (by have := HTr.out; rw [HCY.out.2] at this; exact this)
      have HCl : Hid (Kd.C (Kd.int .i64) wr A2 k (seq ws k)) := Lib.hid (by have := (Kd.R_reads' HRl.out).2.2; rw [HL.out] at this; exact this)
      clear heq
      go_wp2_with (first | (go_at_call 23; refine (cycle_r ws _ _ _ HRr.out HOK.out.mid).mono ?_; rintro e w' ⟨rfl, rfl⟩))
      go_loopw [7] (fun vi wq => ∃ (i : Nat), vi = .int .i64 (i : Int) ∧ i ≤ ws.length ∧ Hid (TK ws (hvS ws 0) p a b ca wq) ∧ Hid (Kd.R (Kd.int .i64) 3 wq w.heap.size (Away p a b) (.slice A2 k c2) (seq ws k)) ∧ Hid (Below w.heap.size w wq)) (fun vi _ => ws.length - (intOf vi).toNat)
      case atStart => exact ⟨0, rfl, by omega, HTz, HRl, HBr⟩
      case round =>
        obtain ⟨i, rfl, hi, HTq, HRlq, HBq⟩ := hrel
        have hgo : i < ws.length ∨ i = ws.length := by omega
        have HRq : Hid (Kd.C (Kd.int .i64) wr (some ad) ws.length ws) := Lib.hid (Kd.C_below HR.out HBq.out)
        have HClq : Hid (Kd.C (Kd.int .i64) wr A2 k (seq ws k)) := Lib.hid (by have := (Kd.R_reads' HRlq.out).2.2; rw [HL.out] at this; exact this)
        rcases hgo with hlt | rfl
        · have hlt' : (i : Int) < ws.length := by omega
          obtain ⟨ad', e, hx⟩ := Kd.at_int HRq.out (i : Int) (by omega) hlt'
          cases e
          rw [Int.toNat_natCast] at hx
          have HI := Lib.hid hlt
          have HC1 : Hid (∀ n, Calls Try.prog 26 #[.slice A2 k c2, .int .i64 (i : Int)] (wr.drewN n) fun e w' => e = .returned (.int .i64 (rd ws (i : Int))) ∧ w' = wr.drewN n) := Lib.hid (fun n => by
            have h1 := count_r (seq ws k) A2 c2 (wr.drewN n) i (by rw [HL.out]; exact Kd.C_drewN HClq.out n) (by rw [HL.out]; omega)
            rw [HL.out, HCY.out.1 i HI.out] at h1
            exact h1.mono fun _ _ ⟨h1, h2⟩ => ⟨h1, h2.symm⟩)
          have HC2 : Hid (∀ n, Calls Try.prog 22 #[.pointer (some ⟨p, 0, none⟩), .int .i64 (i : Int)] (wr.drewN n) fun e w' => e = .returned (.int .i64 0) ∧ w' = wr.drewN n) := Lib.hid (fun n => by
            have h1 := have_p ws (hvS ws 0) p a b ca (wr.drewN n) (HTq.out.drewN n) i HI.out
            rw [show hvS ws 0 = List.replicate ws.length 0 from rfl, rd_rep] at h1
            exact h1.mono fun _ _ ⟨h1, h2⟩ => ⟨h1, h2.symm⟩)
          go_wp2
          go_quiet (first | (go_at_call 26; exact Calls.quiet_of_same (HC1.out _)) | (go_at_call 22; exact Calls.quiet_of_same (HC2.out _)))
          go_wp2
          go_roundw
          case rel => exact ⟨i + 1, by go_num, by omega, Lib.hid (HTq.out.drewN _), Lib.hid (row_drewN HRlq.out _), Lib.hid (low_drewN HBq.out _)⟩
          case measure => simp [intOf]; omega
        · go_wp2
          have HS := Lib.hid (seq_at ws k)
          go_loopw [8] (fun vi wq => ∃ (i : Nat), vi = .int .i64 (i : Int) ∧ i ≤ k ∧ Hid (TK ws (hvS ws i) p a b ca wq) ∧ Hid (Kd.R (Kd.int .i64) 3 wq w.heap.size (Away p a b) (.slice A2 k c2) (seq ws k)) ∧ Hid (Below w.heap.size w wq)) (fun vi _ => k - (intOf vi).toNat)
          case atStart => exact ⟨0, rfl, by omega, HTq, HRlq, HBq⟩
          case round =>
            obtain ⟨i, rfl, hi, HTi, HRi, HBi⟩ := hrel
            have hgo : i < k ∨ i = k := by omega
            have hli := HBi.out.size
            rcases hgo with hlt | rfl
            · have hlt' : (i : Int) < k := by omega
              obtain ⟨g, hg, hg1, hg2, _⟩ := R_some HRi.out (by rw [HL.out]; omega)
              subst hg
              have hgb : g ≠ b := hg2.2.2
              have hc0 : wr.cell? ⟨g, i, none⟩ = some (.int .i64 (nxt ws (hvS ws i) : Nat)) := by
                obtain ⟨_, _, hc⟩ := Kd.R_reads' HRi.out
                obtain ⟨ad', e, hx⟩ := Kd.at_int hc (i : Int) (by omega) (by rw [HL.out]; exact hlt')
                cases e
                rw [Int.toNat_natCast, HS.out i hlt] at hx
                have : (⟨g, 0, none⟩ : Addr).add i = ⟨g, i, none⟩ := by simp [Addr.add]; omega
                rw [this] at hx
                exact hx
              have HNk := Lib.hid (HN.out i (by omega))
              go_wp2
              go_region_held3 (fun w' => w'.cell? ⟨g, i, none⟩ = some (.int .i64 (nxt ws (hvS ws i) : Nat))) (first | exact hc0 | exact hc1) (first | (go_at_call 20; refine (next_p ws (hvS ws i) p a b ca _ (by exact HTi.out.keep (S := fun _ => False) ⟨rfl, rfl, rfl, Nat.le_refl _, fun _ _ _ => rfl⟩ id id id) HOK.out HNk.out).mono ?_; rintro e w2 ⟨rfl, ht2, ho2⟩; have HT3 := Lib.hid ht2; have HO3 := Lib.hid ho2; have hc1 : w2.cell? ⟨g, i, none⟩ = some (.int .i64 (nxt ws (hvS ws i) : Nat)) := ho2.cell hc0 hgb; clear ht2 ho2))
              go_wp2
              go_roundw
              case rel => exact ⟨i + 1, by go_num, by omega, HT3, Lib.hid (row_only HRi.out ⟨HO3.out.os, HO3.out.tape, HO3.out.output, HO3.out.size, HO3.out.block⟩), Lib.hid (HO3.out.below (below_drew HBi.out) HBi.out.size (fun _ h => by omega))⟩
              case measure => simp [intOf]; omega
            · go_wp2_with (first | (go_at_call 17; refine (awake_p _).mono ?_; rintro e w5 ⟨rfl, ho5⟩; have HO5 := Lib.hid ho5; clear ho5))
              go_ret
              exact ⟨rfl, HBi.out.trans (HO5.out.mono hli)⟩

theorem cyc_walk (A : Option Addr) (ws : List Int) (c : Nat) (w : World) (hr : Kd.C (Kd.int .i64) w A ws.length ws) :
    Calls Try.prog 6 #[.slice A ws.length c] w fun e w' => e = .returned (.bool true) ∧ Below w.heap.size w w' := by
  by_cases h3 : Ok ws
  · by_cases h2 : 300 < cyc ws
    · exact cyc_big ws A c w hr h3 h2
    · have hp := h3.pos
      obtain ⟨ad, rfl, _⟩ := Kd.at_int hr 0 (by omega) (by omega)
      exact cyc_ok ws ad c w hr h3 (by omega)
  · exact cyc_no ws A c w hr h3

end Go.Proofs.Ytpophcmdhpechaa.Tur

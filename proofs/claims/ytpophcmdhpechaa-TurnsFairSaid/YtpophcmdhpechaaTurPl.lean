/- TurnsPlay returns true, of any weights. -/
import Derived.Test.YtpophcmdhpechaaTurA
set_option linter.unusedVariables false
set_option linter.unusedSimpArgs false
set_option maxRecDepth 100000
namespace Go.Proofs.Ytpophcmdhpechaa.Tur
open Go.RowKit Go.Proofs.Ytpophcmdhpechaa.Base Go.Proofs.YtpophcmdhpechaaW.PrintWords Go.Proofs.YtpophcmdhpechaaW.PrintMore
attribute [local go_sem] max2_mx min2_mn max_two min_two max_three min_three max_four min_four

/-- A block that is none of the turns'. -/
def Away (p a b k : Nat) : Prop := k ≠ p ∧ k ≠ a ∧ k ≠ b

theorem TK.grown {ws hv l : List Int} {p a b ca base : Nat} {W w1 : World} {v : Value} (h : TK ws hv p a b ca W) (hR : Kd.R (Kd.int .i64) 3 W base (Away p a b) v l) (hg : W.grownBy w1 v.ownBlock) : TK ws hv p a b ca w1 := by
  have hO : Only (fun k => v.ownBlock = some k) W w1 := (Only.refl _ W).grown hg (fun k hk => .inl hk)
  exact h.keep hO (fun e => (hR.1 _ e).1 rfl) (fun e => (hR.1 _ e).2.1 rfl) (fun e => (hR.1 _ e).2.2 rfl)

theorem TK.drewN {ws hv : List Int} {p a b ca : Nat} {W : World} (h : TK ws hv p a b ca W) (n : Nat) : TK ws hv p a b ca (W.drewN n) := h.keep ((Only.refl (fun _ => False) W).drewN n) id id id

theorem row_only {l : List Int} {p a b base : Nat} {W w1 : World} {v : Value} (hR : Kd.R (Kd.int .i64) 3 W base (Away p a b) v l) (ho : Only (fun k => k = b) W w1) : Kd.R (Kd.int .i64) 3 w1 base (Away p a b) v l :=
  Kd.R_step hR (fun k hk hlt => ho.block k hlt hk.2.2)

theorem row_drewN {l : List Int} {p a b base : Nat} {W : World} {v : Value} (hR : Kd.R (Kd.int .i64) 3 W base (Away p a b) v l) (n : Nat) : Kd.R (Kd.int .i64) 3 (W.drewN n) base (Away p a b) v l :=
  Kd.R_below hR (pw_below_drewN (Below.refl _ _) n)

theorem low_drewN {w W : World} (h : Below w.heap.size w W) (n : Nat) : Below w.heap.size w (W.drewN n) := pw_below_drewN h n

theorem away_new {ws hv : List Int} {p a b ca : Nat} {W : World} (h : TK ws hv p a b ca W) (ha : a < W.heap.size) : ∀ k, W.heap.size ≤ k → Away p a b k := fun k hk => by
  have h1 := blk_lt h.box
  have h2 := blk_lt h.own
  exact ⟨by omega, by omega, by omega⟩

theorem TK.a_lt {ws hv : List Int} {p a b ca : Nat} {W : World} (h : TK ws hv p a b ca W) (hp : 0 < ws.length) : a < W.heap.size := World.block_lt_of_cell? W _ (h.row 0 hp)

theorem play_awake (ws : List Int) (A : Option Addr) (c : Nat) (n at' : Int) (w : World) (h : 70 < (ws.length : Int) ∨ ¬ 70 < (ws.length : Int) ∧ 40 < n) :
    Calls Try.prog 5 #[.slice A ws.length c, .int .i64 n, .int .i64 at'] w fun e w' => e = .returned (.bool true) ∧ Below w.heap.size w w' := by
  rcases h with h | ⟨h1, h2⟩
  all_goals
    go_enter Try.func5, Try.ntmps5
    go_wp2_with (go_at_call 17; refine (awake_p _).mono ?_; rintro e w5 ⟨rfl, ho5⟩; have HO5 := Lib.hid ho5; clear ho5)
    go_ret
    exact ⟨rfl, HO5.out⟩

theorem play_no (ws : List Int) (A : Option Addr) (c : Nat) (n at' : Int) (w : World) (hr : Kd.C (Kd.int .i64) w A ws.length ws) (h1 : ws.length ≤ 70) (h2 : n ≤ 40) (hno : ¬ Ok ws) :
    Calls Try.prog 5 #[.slice A ws.length c, .int .i64 n, .int .i64 at'] w fun e w' => e = .returned (.bool true) ∧ Below w.heap.size w w' := by
  have HR := Lib.hid hr
  have HN := Lib.hid hno
  have h3 : ¬ 70 < (ws.length : Int) := by omega
  have h4 : ¬ 40 < n := by omega
  clear hr hno
  go_enter Try.func5, Try.ntmps5
  go_wp2_with (first | (go_at_call 18; refine (new_no ws _ _ _ HR.out h1 HN.out).mono ?_; rintro e w' ⟨rfl, rfl⟩) | (go_at_call 19; refine (right_no ws _ _ _ HR.out h1 HN.out).mono ?_; rintro e w' ⟨rfl, rfl⟩) | (go_at_call 20; refine (next_nil _).mono ?_; rintro e w' ⟨rfl, rfl⟩) | (go_at_call 21; refine (cycle_nil _).mono ?_; rintro e w' ⟨rfl, rfl⟩) | (go_at_call 22; refine (have_nil _ _).mono ?_; rintro e w' ⟨rfl, rfl⟩) | (go_at_call 17; refine (awake_p _).mono ?_; rintro e w5 ⟨rfl, ho5⟩; have HO5 := Lib.hid ho5; clear ho5))
  go_ret
  exact ⟨rfl, HO5.out⟩

set_option maxHeartbeats 4000000 in
theorem play_ok (ws : List Int) (ad : Addr) (c : Nat) (n at0 : Int) (w : World) (hr : Kd.C (Kd.int .i64) w (some ad) ws.length ws) (h2 : n ≤ 40) (hok : Ok ws) :
    Calls Try.prog 5 #[.slice (some ad) ws.length c, .int .i64 n, .int .i64 at0] w fun e w' => e = .returned (.bool true) ∧ Below w.heap.size w w' := by
  have HR := Lib.hid hr
  have HOK := Lib.hid hok
  have h64 := hok.n
  have hpos := hok.pos
  have h3 : ¬ 70 < (ws.length : Int) := by omega
  have h4 : ¬ 40 < n := by omega
  clear hr hok
  go_enter Try.func5, Try.ntmps5
  go_wp2_with (first | (go_at_call 18; refine (new_ok ws ad _ _ HR.out HOK.out).mono ?_; rintro e w1 ⟨p, a, b, ca, rfl, hT, hB, hp, ha, hb⟩; have HT := Lib.hid hT; have HB := Lib.hid hB; have HR1 : Hid (Kd.C (Kd.int .i64) w1 (some ad) ws.length ws) := Lib.hid (Kd.C_below HR.out hB); clear hT hB) | (go_at_call 19; refine (right_ok ws _ _ _ HR1.out HOK.out).mono ?_; rintro e w' ⟨rfl, rfl⟩) | (go_at_call 21; refine (cycle_p ws _ _ _ _ _ _ HT.out).mono ?_; rintro e w' ⟨rfl, rfl⟩) | (go_at_call 23; refine (cycle_r ws _ _ _ HR1.out HOK.out.mid).mono ?_; rintro e w' ⟨rfl, rfl⟩))
  go_loopw [9, 10, 11] (fun v9 vi v11 wr => ∃ (hv l : List Int) (A2 : Option Addr) (c2 : Nat), v9 = .slice A2 l.length c2 ∧ vi = .int .i64 (l.length : Int) ∧ l.length ≤ 40 ∧ Hid (Behind ws hv l) ∧ Hid (TK ws hv p a b ca wr) ∧ Hid (Kd.R (Kd.int .i64) 3 wr w.heap.size (Away p a b) (.slice A2 l.length c2) l) ∧ Hid (Below w.heap.size w wr)) (fun _ vi _ _ => (40 - (intOf vi)).toNat)
  case atStart => exact ⟨List.replicate ws.length 0, [], none, 0, rfl, rfl, by simp, Lib.hid (Behind.start HOK.out), HT, Lib.hid (Kd.R_nil _ _ _ _ _), HB⟩
  case round =>
    obtain ⟨hv, l, A2, c2, rfl, rfl, hi, HBE, HTr, HRl, HBr⟩ := hrel
    have hgo : (l.length : Int) < n ∨ ¬ (l.length : Int) < n := by omega
    have HNE : Hid (Near ws hv) := Lib.hid (fun j hj => HBE.out.near HOK.out (by omega) j hj)
    have hlw := HBr.out.size
    rcases hgo with hlt | hlt
    · have hbw : w.heap.size ≤ b := hb
      go_wp2_with (first | (go_at_call 20; refine (next_p ws hv p a b ca _ HTr.out HOK.out HNE.out).mono ?_; rintro e w2 ⟨rfl, ht2, ho2⟩; have HT2 := Lib.hid ht2; have HR2 := Lib.hid (row_only HRl.out ho2); have HB2 := Lib.hid (ho2.below HBr.out HBr.out.size (fun _ h => by omega)); clear ht2 ho2) | (go_at_call 24; refine (next_r ws hv l ad A2 _ _ _ (Kd.C_below HR.out HB2.out) (Kd.R_reads' HR2.out).2.2 HOK.out HBE.out (by omega)).mono ?_; rintro e w' ⟨rfl, hm⟩; obtain ⟨m, rfl⟩ := hm; have HT3 := Lib.hid (HT2.out.drewN m); have HR3 := Lib.hid (row_drewN HR2.out m); have HB3 := Lib.hid (low_drewN HB2.out m)) | ((with_reducible refine gate_builtin (b := .append) (xs := #[.tmp 74, .tmp 76]) rfl ?_); at_builtin; refine Kd.R_append (Kd.int .i64) (w0 := w) w.heap.size rfl (.tmp 74) (.tmp 76) 34 3 (.int .i64 0) 8 rfl Try.underlying34 info3 rfl (by decide) (by omega) (.slice A2 l.length c2) l (nxt ws hv : Nat) [.int .i64 (nxt ws hv : Nat)] (Away p a b) (fun _ => False) rfl rfl ?aP (fun _ hk => hk.elim) ?aF ?aO ?aB ?aS ?aL ?_; (case aP => exact rfl); (case aF => exact away_new HT3.out (HT3.out.a_lt hpos)); (case aO => exact HR3.out); (case aB => exact HB3.out); (case aS => exact HB3.out.size); (case aL => omega); intro v4 w4 ho4 hb4 hg4 hat4; obtain ⟨A4, c4, e4⟩ := Kd.R_slice ho4; subst e4; have HR4 := Lib.hid ho4; have HB4 := Lib.hid hb4; have HT4 := Lib.hid (HT3.out.grown HR3.out hg4); clear ho4 hb4 hg4 hat4))
      go_roundw
      case rel => exact ⟨aft ws hv, l ++ [((nxt ws hv : Nat) : Int)], A4, c4, by simp only [List.length_append, List.length_singleton], by simp only [List.length_append, List.length_singleton]; go_num, by simp; omega, Lib.hid (HBE.out.next HOK.out), HT4, HR4, HB4⟩
      case measure => simp [intOf]; omega
    · have hgo : at0 < 0 ∨ ¬ at0 < 0 ∧ (ws.length : Int) ≤ at0 ∨ ¬ at0 < 0 ∧ at0 < (ws.length : Int) := by omega
      rcases hgo with ha1 | ⟨ha1, ha2⟩ | ⟨ha1, ha2⟩
      · have HC := Lib.hid (have_no ws hv p a b ca wr HTr.out at0 (.inl ha1))
        go_wp2_with (first | (go_at_call 22; refine HC.out.mono ?_; rintro e w' ⟨rfl, rfl⟩) | (go_at_call 17; refine (awake_p _).mono ?_; rintro e w5 ⟨rfl, ho5⟩; have HO5 := Lib.hid ho5; clear ho5))
        go_ret
        exact ⟨rfl, HBr.out.trans (HO5.out.mono hlw)⟩
      · have HC := Lib.hid (have_no ws hv p a b ca wr HTr.out at0 (.inr ⟨by omega, ha2⟩))
        go_wp2_with (first | (go_at_call 22; refine HC.out.mono ?_; rintro e w' ⟨rfl, rfl⟩) | (go_at_call 17; refine (awake_p _).mono ?_; rintro e w5 ⟨rfl, ho5⟩; have HO5 := Lib.hid ho5; clear ho5))
        go_ret
        exact ⟨rfl, HBr.out.trans (HO5.out.mono hlw)⟩
      · obtain ⟨j, rfl⟩ : ∃ j : Nat, at0 = j := ⟨at0.toNat, by omega⟩
        have hj : j < ws.length := by omega
        have HJ := Lib.hid hj
        have HE := Lib.hid (hav_is HBE.out j hj)
        go_wp2_with (first | (go_at_call 22; refine (have_p ws hv p a b ca wr HTr.out j HJ.out).mono ?_; rintro e w' ⟨rfl, rfl⟩) | (go_at_call 25; refine (have_r ws l ad A2 _ _ _ j (Kd.C_below HR.out HBr.out) (Kd.R_reads' HRl.out).2.2 HOK.out.mid (by omega) HJ.out).mono ?_; rintro e w' ⟨rfl, hm⟩; rw [HE.out]; obtain ⟨m, rfl⟩ := hm; have HB3 := Lib.hid (low_drewN HBr.out m)) | (go_at_call 17; refine (awake_p _).mono ?_; rintro e w5 ⟨rfl, ho5⟩; have HO5 := Lib.hid ho5; clear ho5))
        go_ret
        exact ⟨rfl, HB3.out.trans (HO5.out.mono hlw)⟩

theorem play_walk (A : Option Addr) (ws : List Int) (c : Nat) (n at0 : Int) (w : World) (hr : Kd.C (Kd.int .i64) w A ws.length ws) :
    Calls Try.prog 5 #[.slice A ws.length c, .int .i64 n, .int .i64 at0] w fun e w' => e = .returned (.bool true) ∧ Below w.heap.size w w' := by
  by_cases h1 : 70 < (ws.length : Int)
  · exact play_awake ws A c n at0 w (.inl h1)
  by_cases h2 : 40 < n
  · exact play_awake ws A c n at0 w (.inr ⟨h1, h2⟩)
  by_cases h3 : Ok ws
  · have hp := h3.pos
    obtain ⟨ad, rfl, _⟩ := Kd.at_int hr 0 (by omega) (by omega)
    exact play_ok ws ad c n at0 w hr (by omega) h3
  · exact play_no ws A c n at0 w hr (by omega) (by omega) h3

end Go.Proofs.Ytpophcmdhpechaa.Tur

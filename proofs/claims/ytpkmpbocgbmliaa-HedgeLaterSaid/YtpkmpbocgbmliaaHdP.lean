/- Hedge: a whole step; the game. -/
import Derived.Test.YtpkmpbocgbmliaaHdU
import Derived.Test.YtpkmpbocgbmliaaHdB
import Derived.Deep.LoopGhost
set_option linter.unusedVariables false
set_option linter.unusedSimpArgs false
namespace Go.Proofs.Ytpkmpbocgbmliaa.Hd
open Go.RowKit Go.Proofs.Ytpkmpbocgbmliaa.Base Go.Proofs.Ytpkmpbocgbmliaa.Rws Go.Proofs.Ytpkmpbocgbmliaa.PHedgePlays Go.Proofs.YtpkmpbocgbmliaaW.PrintWords Go.Proofs.YtpkmpbocgbmliaaW.PrintMore
attribute [local go_sem] max2_mx min2_mn max_two min_two max_three min_three max_four min_four

def resV (r : Res) : Value := .agg #[.int .i64 r.code, .int .i64 r.t, .int .i64 r.sent, .int .i64 r.who]

/-- What a step does. -/
def StepPost (w0 : World) (g : Nat) (K : Kst) (A : Option Addr) (c : Nat) (σ : St) (e : Ending) (w' : World) : Prop :=
  (∀ r, (stepM K σ).1 = some r → e = .returned (.tuple #[resV r, .bool true]) ∧ Below w0.heap.size w0 w') ∧
  ((stepM K σ).1 = none → e = .returned (.tuple #[resV ⟨0, 0, 0, 0⟩, .bool false]) ∧ ∃ v', Gm w0 w' g K A c (stepM K σ).2 v')

theorem step_p {w0 w : World} {g : Nat} {K : Kst} {A : Option Addr} {c : Nat} {σ : St} {v : Value} (h : Gm w0 w g K A c σ v) (hO : OkS K σ) (h0 : 0 < σ.out.length) :
    Calls Try.prog 17 #[.pointer (some ⟨g, 0, none⟩)] w (StepPost w0 g K A c σ) := by
  have hd := fst_get σ h0
  unfold StepPost
  rcases step_cases K σ with ⟨e, h1, h2⟩ | ⟨e, h1⟩ | ⟨e, h1, h2, h3⟩ | ⟨e, h1, h2, h3, h4⟩ | ⟨e, h1, h2, h3, h4, h5⟩
  · rw [e]
    exact (st_send h hO h0 _ rfl _ hd h1.1 h1.2 h2).mono fun _ _ h => ⟨fun r hr => by (cases hr), fun _ => h⟩
  · rw [e]
    rcases h1 with ⟨x, y⟩ | ⟨x, y⟩
    · exact (st_late1 h hO h0 _ rfl _ hd x.1 x.2 (by omega)).mono fun _ _ h => ⟨fun r hr => by (injection hr with hr; subst hr; exact h), fun hr => by (cases hr)⟩
    · by_cases hs : σ.sent < K.most
      · exact (st_late3 h hO h0 _ rfl _ hd hs (fun e => x ⟨hs, e⟩) y).mono fun _ _ h => ⟨fun r hr => by (injection hr with hr; subst hr; exact h), fun hr => by (cases hr)⟩
      · exact (st_late2 h hO h0 _ rfl _ hd hs y).mono fun _ _ h => ⟨fun r hr => by (injection hr with hr; subst hr; exact h), fun hr => by (cases hr)⟩
  · rw [e]
    exact (st_take h hO h0 _ rfl _ hd h1 (by omega)).mono fun _ _ h => ⟨fun r hr => by (injection hr with hr; subst hr; exact h.1 h3), fun hr => by (cases hr)⟩
  · rw [e]
    refine (st_take h hO h0 _ rfl _ hd h1 (by omega)).mono fun _ _ h => ⟨fun r hr => by (cases hr), fun _ => ?_⟩
    have := h.2 (fun x => by rcases x with x | x; (rw [h3] at x; cases x); omega)
    rw [if_pos h4] at this
    exact this
  · rw [e]
    refine (st_take h hO h0 _ rfl _ hd h1 (by omega)).mono fun _ _ h => ⟨fun r hr => by (cases hr), fun _ => ?_⟩
    have := h.2 (fun x => by rcases x with x | x; (rw [h3] at x; cases x); exact h5 x.2)
    rw [if_neg (by omega)] at this
    exact this

theorem mn_most (a : Int) : mn (mx a 1) 5 = mostOf a := by unfold mn mx mostOf; split <;> split <;> (try split) <;> omega

set_option maxHeartbeats 4000000 in
set_option maxRecDepth 100000 in
theorem play_p (most delay dl : Int) (A : Option Addr) (c : Nat) (l : List S36) (w : World) (hl : Kd.C k36 w A l.length l) :
    Calls Try.prog 8 #[.int .i64 most, .int .i64 delay, .int .i64 dl, .slice A l.length c] w fun e w' => e = .returned (resV (playM most delay dl l)) ∧ Below w.heap.size w w' := by
  have h1 := mn_most most
  obtain ⟨mo, hmo⟩ : ∃ x, x = mostOf most := ⟨_, rfl⟩
  rw [← hmo] at h1
  obtain ⟨de, hde⟩ : ∃ x, x = cl delay := ⟨_, rfl⟩
  obtain ⟨dd, hdd⟩ : ∃ x, x = cl dl := ⟨_, rfl⟩
  have HC1 : Hid (∀ w, Calls Try.prog 14 #[.int .i64 delay] w fun e w' => e = .returned (.int .i64 de) ∧ w = w') := Lib.hid (fun w => by rw [hde]; exact clamp_p _ _)
  have HC2 : Hid (∀ w, Calls Try.prog 14 #[.int .i64 dl] w fun e w' => e = .returned (.int .i64 dd) ∧ w = w') := Lib.hid (fun w => by rw [hdd]; exact clamp_p _ _)
  have HK : Hid (kOf most delay dl l = ⟨mo, de, dd, l⟩) := Lib.hid (by rw [hmo, hde, hdd]; rfl)
  obtain ⟨R, hR⟩ : ∃ R, R = playM most delay dl l := ⟨_, rfl⟩
  rw [← hR]
  have HR0 : Hid (dd = 0 → R = ⟨4, 0, 0, 0⟩) := Lib.hid (fun h => by rw [hR]; unfold playM; rw [if_pos (by rw [← hdd]; exact h)])
  have HR1 : Hid (dd ≠ 0 → runM ⟨mo, de, dd, l⟩ 12 (start ⟨mo, de, dd, l⟩) = some R) := Lib.hid (fun h => by rw [hR, ← HK.out]; exact playM_run _ _ _ _ (by rw [← hdd]; exact h))
  have HM : Hid (1 ≤ mo ∧ mo ≤ 5) := Lib.hid (by rw [hmo]; exact mostOf_bd most)
  have HL := Lib.hid hl
  clear hmo hde hdd hR hl HK
  obtain ⟨n, hn⟩ : ∃ n, n = l.length := ⟨_, rfl⟩
  have HN := Lib.hid hn
  rw [← hn] at HL ⊢
  clear hn
  obtain ⟨w0, hw0⟩ : ∃ x, x = w.alloc (.cells #[.int .i64 0, .int .i64 0, .int .i64 0, .int .i64 0] 25) := ⟨_, rfl⟩
  have HBE : Hid (w.heap.size + 1 = w0.heap.size ∧ (∀ x, Below w0.heap.size w0 x → Below w.heap.size w x)) := Lib.hid (by
    rw [hw0]
    have hsz : (w.alloc (.cells #[.int .i64 0, .int .i64 0, .int .i64 0, .int .i64 0] 25)).heap.size = w.heap.size + 1 := by show (w.heap.push _).size = _; simp
    exact ⟨hsz.symm, fun x hx => (((Only.refl (fun _ => False) w).alloc _).below (Below.refl _ _) (Nat.le_refl _) (fun _ h => h.elim)).trans (hx.mono (by omega))⟩)
  have HKS := Lib.hid (heap_alloc_new w (.cells #[.int .i64 0, .int .i64 0, .int .i64 0, .int .i64 0] 25))
  have HL0 : Hid (Kd.C k36 w0 A n l) := by rw [hw0]; exact Lib.hid (Kd.C_alloc HL.out _)
  go_enter Try.func8, Try.ntmps8
  go_upto_region 1 with fail
  rw [← hw0] at HKS ⊢
  clear hw0 HL
  obtain ⟨p, hp⟩ : ∃ x, x = w.heap.size := ⟨_, rfl⟩
  have HPW := Lib.hid hp
  rw [← hp] at HKS ⊢
  clear hp
  obtain ⟨g, hg⟩ : ∃ x, x = w0.heap.size := ⟨_, rfl⟩
  have HGW := Lib.hid hg
  have hc2 : (w0.alloc (.cells #[.int .i64 mo, .int .i64 de, .int .i64 dd, .slice A n c, .int .i64 0, .int .i64 0, .slice none 0 0] 40)).cell? ⟨w0.heap.size, 2, none⟩ = some (.int .i64 dd) := cell_at (heap_alloc_new _ _) 2 rfl
  have HG0 : Hid (Gm w0 (w0.alloc (.cells #[.int .i64 mo, .int .i64 de, .int .i64 dd, .slice A n c, .int .i64 0, .int .i64 0, .slice none 0 0] 40)) g ⟨mo, de, dd, l⟩ A c ⟨0, 0, []⟩ (.slice none 0 0)) := Lib.hid ⟨by rw [hg, HN.out.symm]; exact heap_alloc_new _ _, Row.nil _ _ _ _, by omega, by rw [← HN.out]; exact HL0.out, ((Only.refl (fun _ => False) w0).alloc _).below (Below.refl _ _) (Nat.le_refl _) (fun _ h => h.elim)⟩
  rw [← hg] at hc2
  clear hg
  go_upto_if 26 with (first | (go_at_call 14; with_reducible refine (HC1.out _).mono ?_; rintro e w' ⟨rfl, rfl⟩) | (go_at_call 14; with_reducible refine (HC2.out _).mono ?_; rintro e w' ⟨rfl, rfl⟩))
  rw [← HGW.out]
  generalize w0.alloc (.cells #[.int .i64 mo, .int .i64 de, .int .i64 dd, .slice A n c, .int .i64 0, .int .i64 0, .slice none 0 0] 40) = w1 at *
  clear hc2
  have HPB : Hid (∀ x, Below w0.heap.size w0 x → x.heap[p]? = some (.cells #[.int .i64 0, .int .i64 0, .int .i64 0, .int .i64 0] 25 (0, 0))) := Lib.hid (fun x hx => (hx.block p (by have h1 := HBE.out.1; have h2 := HPW.out; omega)).trans HKS.out)
  have HSW : Hid (∀ x cs, Below w0.heap.size w0 x → Below w.heap.size w (x.setRow p cs)) := Lib.hid (fun x cs hx => (only_setRow (S := fun k => k = p) (Only.refl _ x) (.inl rfl) cs).below (HBE.out.2 x hx) (HBE.out.2 x hx).size (fun i hi => by have := HPW.out; omega))
  by_cases hd0 : dd = 0
  · have hb : (dd == 0) = true := by simp [hd0]
    have HLA := Lib.hid (late_p HG0.out)
    have HRR : Hid (R = ⟨4, dd, 0, 0⟩) := Lib.hid (by rw [HR0.out hd0, hd0])
    clear hd0
    go_wp2_with (first | (go_at_call 15; refine HLA.out.mono ?_; rintro e w2 ⟨rfl, o2⟩; have HB2 := Lib.hid (o2.below HG0.out.bel HG0.out.bel.size (fun _ h => h.elim)); have HP2 := Lib.hid (HPB.out _ HB2.out); clear o2) | ((with_reducible refine gate_store (ty := 25) (x := .tmp 8) (y := .tmp 28) rfl ?_); go_loud (refine wpList_store_row rfl 25 (.tmp 8) (.tmp 28) rfl p #[.int .i64 4, .int .i64 dd, .int .i64 0, .int .i64 0] rfl rfl 25 _ HP2.out (by kernel_rfl) rfl (by simp [Value.oneCell']) ?_)))
    (try simp only [Exit.inBlock, Exit.then])
    refine bodyPost_ret (results_cell_row rfl _ _ p 25 _ (0, 0) _ rfl (setRow_heap _ _ _ _ _ _ HP2.out) Try.underlying25 rfl (by kernel_rfl)) rfl ?_
    rw [HRR.out]
    exact ⟨rfl, HSW.out _ _ HB2.out⟩
  · have hb : (dd == 0) = false := by simp [hd0]
    have HRR := Lib.hid (HR1.out hd0)
    clear hd0
    have HSE := Lib.hid (send_p HG0.out ⟨Int.le_refl _, by decide⟩ (by simp) 0)
    go_wp2_with (first | (go_at_call 16; refine HSE.out.mono ?_; rintro e w2 ⟨rfl, v2, h2, o2⟩; have HG2 := Lib.hid h2; clear h2 o2))
    go_loopg [10, 11] 12 (fun kq v10 v11 wr => ∃ σ v, Hid (Gm w0 wr g ⟨mo, de, dd, l⟩ A c σ v) ∧ Hid (OkS ⟨mo, de, dd, l⟩ σ) ∧ Hid (0 < σ.out.length) ∧ Hid (runM ⟨mo, de, dd, l⟩ kq σ = some R))
    case atStart =>
      have hs := start_ok (K := ⟨mo, de, dd, l⟩) HM.out.1 HM.out.2
      exact ⟨start ⟨mo, de, dd, l⟩, v2, HG2, Lib.hid hs.1, Lib.hid hs.2.1, HRR⟩
    case round =>
      clear HG2 HSE HRR HG0
      obtain ⟨σ, v, HG, HO, H0, HR⟩ := hrel
      cases gk with
      | zero => exact absurd HR.out (by simp [runM])
      | succ k =>
        have HST := Lib.hid (step_p HG.out HO.out H0.out)
        cases hsm : stepM ⟨mo, de, dd, l⟩ σ with
        | mk o σ' =>
          cases o with
          | some r =>
            have HRr : Hid (R = r) := Lib.hid (by
              have h := HR.out
              unfold runM at h
              rw [hsm] at h
              exact (Option.some.inj h).symm)
            have HS1 : Hid ((stepM ⟨mo, de, dd, l⟩ σ).1 = some r) := Lib.hid (by rw [hsm])
            clear hsm
            go_wp2_with (first | (go_at_call 17; refine HST.out.mono ?_; rintro e w3 h3; obtain ⟨h31, h32⟩ := h3.1 r HS1.out; subst h31; have HB3 := Lib.hid (h32.alloc h32.size (.cells #[.int .i64 r.code, .int .i64 r.t, .int .i64 r.sent, .int .i64 r.who] 25)); have q0 := cell_at (heap_alloc_new w3 (.cells #[.int .i64 r.code, .int .i64 r.t, .int .i64 r.sent, .int .i64 r.who] 25)) 0 rfl; have q1 := cell_at (heap_alloc_new w3 (.cells #[.int .i64 r.code, .int .i64 r.t, .int .i64 r.sent, .int .i64 r.who] 25)) 1 rfl; have q2 := cell_at (heap_alloc_new w3 (.cells #[.int .i64 r.code, .int .i64 r.t, .int .i64 r.sent, .int .i64 r.who] 25)) 2 rfl; have q3 := cell_at (heap_alloc_new w3 (.cells #[.int .i64 r.code, .int .i64 r.t, .int .i64 r.sent, .int .i64 r.who] 25)) 3 rfl; have HP3 := Lib.hid (HPB.out _ HB3.out); clear h32 h3; unfold resV) | ((with_reducible refine gate_store (ty := 25) (x := .tmp 8) (y := .tmp 37) rfl ?_); go_loud (refine wpList_store_row rfl 25 (.tmp 8) (.tmp 37) rfl p #[.int .i64 r.code, .int .i64 r.t, .int .i64 r.sent, .int .i64 r.who] rfl rfl 25 _ HP3.out (by kernel_rfl) rfl (by simp [Value.oneCell']) ?_)))
            (try simp only [Exit.inBlock, Exit.then])
            refine bodyPost_ret (results_cell_row rfl _ _ p 25 _ (0, 0) _ rfl (setRow_heap _ _ _ _ _ _ HP3.out) Try.underlying25 rfl (by kernel_rfl)) rfl ?_
            rw [HRr.out]
            exact ⟨rfl, HSW.out _ _ HB3.out⟩
          | none =>
            have HRn : Hid (runM ⟨mo, de, dd, l⟩ k σ' = some R) := Lib.hid (by
              have h := HR.out
              unfold runM at h
              rw [hsm] at h
              exact h)
            have HS1 : Hid ((stepM ⟨mo, de, dd, l⟩ σ).1 = none) := Lib.hid (by rw [hsm])
            have HS2 : Hid (OkS ⟨mo, de, dd, l⟩ σ' ∧ 0 < σ'.out.length) := Lib.hid (by
              have := step_ok HO.out H0.out HS1.out
              rw [hsm] at this
              exact ⟨this.1, this.2.1⟩)
            have HS3 : Hid ((stepM ⟨mo, de, dd, l⟩ σ).2 = σ') := Lib.hid (by rw [hsm])
            clear hsm
            go_wp2_with (first | (go_at_call 17; refine HST.out.mono ?_; rintro e w3 h3; obtain ⟨h31, v3, h32⟩ := h3.2 HS1.out; subst h31; rw [HS3.out] at h32; have HG3 := Lib.hid (h32.only0 ((Only.refl _ _).alloc (.cells #[.int .i64 0, .int .i64 0, .int .i64 0, .int .i64 0] 25))); clear h32 h3; unfold resV))
            go_roundg k
            case measure => omega
            case rel => exact ⟨σ', v3, HG3, Lib.hid HS2.out.1, Lib.hid HS2.out.2, HRn⟩


/-- Two results are the same. -/
theorem res_inj {a b : Res} (h : resV a = resV b) : a = b := by
  simp [resV] at h
  cases a; cases b; simp_all

end Go.Proofs.Ytpkmpbocgbmliaa.Hd

/- Hedge: step, where an answer is taken. -/
import Derived.Test.YtpkmpbocgbmliaaHdT
import Derived.Test.YtpkmpbocgbmliaaHdL
import Derived.Deep.DeepCutAuto
set_option linter.unusedVariables false
set_option linter.unusedSimpArgs false
namespace Go.Proofs.Ytpkmpbocgbmliaa.Hd
open Go.RowKit Go.Proofs.Ytpkmpbocgbmliaa.Base Go.Proofs.Ytpkmpbocgbmliaa.Rws Go.Proofs.Ytpkmpbocgbmliaa.PHedgePlays Go.Proofs.YtpkmpbocgbmliaaW.PrintWords Go.Proofs.YtpkmpbocgbmliaaW.PrintMore
attribute [local go_sem] max2_mx min2_mn max_two min_two max_three min_three max_four min_four


theorem Ds.without' {W : World} {P : Nat → Prop} {q o n cc : Nat} {L : List Due} (hn : n = L.length) (h : Row 3 51 W P (.slice (some ⟨q, o, none⟩) n cc) n (L.flatMap encD)) (hl : n ≤ 5) (hc : n ≤ cc) (hP : ∀ k, W.heap.size ≤ k → P k) (k : Nat) (hk : k < n) :
    ∃ A6 c6 w6, (Builtin.append_ #[38, 38] 38 #[.slice (some ⟨q, o, none⟩) k cc, .slice (if cc = k + 1 then some ⟨q, o, none⟩ else some ⟨q, o + (k + 1) * 3, none⟩) (n - (k + 1)) (cc - (k + 1))]).run Try.prog W = .ok (.slice A6 (n - 1) c6) w6 ∧ Row 3 51 w6 P (.slice A6 (n - 1) c6) (n - 1) ((L.take k ++ L.drop (k + 1)).flatMap encD) ∧ Only (fun k => k = q) W w6 := by
  have h1 := Ds.without hn h hl hc hP k hk
  have e : (if cc = k + 1 then Value.slice (some ⟨q, o, none⟩) (n - (k + 1)) 0 else .slice (some ⟨q, o + (k + 1) * 3, none⟩) (n - (k + 1)) (cc - (k + 1))) = .slice (if cc = k + 1 then some ⟨q, o, none⟩ else some ⟨q, o + (k + 1) * 3, none⟩) (n - (k + 1)) (cc - (k + 1)) := by
    split
    · rename_i h2
      rw [h2, Nat.sub_self]
    · rfl
  rw [e] at h1
  exact h1

/-- What a step does that takes an answer. -/
def TakePost (w0 : World) (g : Nat) (K : Kst) (A : Option Addr) (c : Nat) (σ : St) (k : Nat) (d : Due) (e : Ending) (w' : World) : Prop :=
      ((againB d.code = false ∨ (K.most ≤ σ.sent ∧ σ.out.length = 1)) → e = .returned (.tuple #[.agg #[.int .i64 d.code, .int .i64 d.t, .int .i64 σ.sent, .int .i64 d.who], .bool true]) ∧ Below w0.heap.size w0 w') ∧
      (¬ (againB d.code = false ∨ (K.most ≤ σ.sent ∧ σ.out.length = 1)) → e = .returned (.tuple #[.agg #[.int .i64 0, .int .i64 0, .int .i64 0, .int .i64 0], .bool false]) ∧ ∃ v', Gm w0 w' g K A c (if σ.sent < K.most then sendM K ⟨σ.sent, σ.next, σ.out.take k ++ σ.out.drop (k + 1)⟩ d.t else ⟨σ.sent, σ.next, σ.out.take k ++ σ.out.drop (k + 1)⟩) v')

set_option maxHeartbeats 4000000 in
set_option maxRecDepth 100000 in
theorem st_take {w0 w : World} {g : Nat} {K : Kst} {A : Option Addr} {c : Nat} {σ : St} {v : Value} (h : Gm w0 w g K A c σ v) (hO : OkS K σ) (h0 : 0 < σ.out.length) (k : Nat) (hk : k = firstN σ.out σ.out.length) (d : Due) (hd : σ.out[k]? = some d) (h1 : ¬ (σ.sent < K.most ∧ σ.next < d.t)) (h3 : ¬ K.dl ≤ d.t) :
    Calls Try.prog 17 #[.pointer (some ⟨g, 0, none⟩)] w (TakePost w0 g K A c σ k d) := by
  have hlen : σ.out.length ≤ 5 := by have h1 := hO.len; have h2 := hO.s1; have h3 := hO.most; omega
  obtain ⟨q, o, cc, rfl, hcc⟩ := h.row.some_ h0
  obtain ⟨n, hn⟩ : ∃ n, n = σ.out.length := ⟨_, rfl⟩
  obtain ⟨ln, hln⟩ : ∃ n, n = K.l.length := ⟨_, rfl⟩
  have hkn : k < n := by rw [hk, hn]; exact firstN_lt _ _ h0
  have HD := Lib.hid hd
  have HK := Lib.hid hk
  have HN := Lib.hid hn
  have HLN := Lib.hid hln
  have HG := Lib.hid h
  have HOK := Lib.hid hO
  have hO1 := (Only.refl (fun _ => False) w).alloc (.cells #[.int .i64 0, .int .i64 0, .int .i64 0, .int .i64 0] 25)
  have hF := first_p (h.only0 hO1) hlen h0
  rw [← hk] at hF
  have HF := Lib.hid hF
  have HS1 : Hid (Sp w0 w (w.alloc (.cells #[.int .i64 0, .int .i64 0, .int .i64 0, .int .i64 0] 25)) g K A ln c σ q o n cc w.heap.size) := Lib.hid ⟨by rw [hln, hn]; exact hO1.blk h.blk (fun h => h), by rw [hn]; exact h.row.only hO1 (fun _ _ h => h), heap_alloc_new w _, hO1⟩
  have hpg : g < w.heap.size := blk_lt h.blk
  have hpq : q < w.heap.size := (Row.own h.row (k := q) (by simp [Value.ownBlock])).2
  have hn0 : 0 < n := by omega
  have hn5 : n ≤ 5 := by omega
  have hcn : n ≤ cc := by omega
  clear hF hO1 h hO hlen hn hln hk hcc hd h0
  have hn0' : (0 : Int) < n := by omega
  have hk0' : (0 : Int) ≤ (k : Int) := by omega
  have hkn' : (k : Int) < n := by omega
  have hc6 : (w.alloc (.cells #[.int .i64 0, .int .i64 0, .int .i64 0, .int .i64 0] 25)).cell? ⟨g, 6, none⟩ = some (.slice (some ⟨q, o, none⟩) n cc) := cell_at HS1.out.blk 6 rfl
  go_enter Try.func17, Try.ntmps17
  go_wp2_with fail
  generalize w.alloc (.cells #[.int .i64 0, .int .i64 0, .int .i64 0, .int .i64 0] 25) = w1 at *
  obtain ⟨p, hp⟩ : ∃ p, p = w.heap.size := ⟨_, rfl⟩
  have HP := Lib.hid hp
  rw [← hp] at HS1 hpg hpq ⊢
  clear hp
  refine HF.out.mono ?_
  rintro e w2 ⟨rfl, ho2⟩
  have HS2 := Lib.hid (HS1.out.only0 ho2)
  clear ho2 hc6
  have hcd3 : decide (K.dl ≤ d.t) = false := decide_eq_false (by omega)
  have hc0 : w2.cell? ⟨g, 0, none⟩ = some (.int .i64 K.most) := cell_at HS2.out.blk 0 rfl
  have hc2 : w2.cell? ⟨g, 2, none⟩ = some (.int .i64 K.dl) := cell_at HS2.out.blk 2 rfl
  have hc4 : w2.cell? ⟨g, 4, none⟩ = some (.int .i64 σ.sent) := cell_at HS2.out.blk 4 rfl
  have hc5 : w2.cell? ⟨g, 5, none⟩ = some (.int .i64 σ.next) := cell_at HS2.out.blk 5 rfl
  have hc6 : w2.cell? ⟨g, 6, none⟩ = some (.slice (some ⟨q, o, none⟩) n cc) := cell_at HS2.out.blk 6 rfl
  obtain ⟨he0, he1, he2⟩ := HS2.out.due HD.out
  clear h3
  have H1 := Lib.hid h1
  clear h1
  go_upto_region 6 with fail
  go_cut [6] (fun s6 wx => s6 = .bool false ∧ Hid (Sp w0 w wx g K A ln c σ q o n cc p))
  case first =>
    have h1 := H1.out
    by_cases h2 : σ.sent < K.most
    · have h4 : decide (σ.next < d.t) = false := decide_eq_false (fun e => h1 ⟨h2, e⟩)
      clear h1
      go_quiet (fail)
      go_wp2_with fail
      go_meet
      exact ⟨rfl, Lib.hid (HS2.out.only0 ((Only.refl _ _).drewN _))⟩
    · have h4 : decide (σ.sent < K.most) = false := decide_eq_false h2
      clear h1
      go_quiet (fail)
      go_wp2_with fail
      go_meet
      exact ⟨rfl, Lib.hid (HS2.out.only0 ((Only.refl _ _).drewN _))⟩
  case rest =>
    obtain ⟨rfl, HS3⟩ := hcut
    clear hc0 hc2 hc4 hc5 hc6 he0 he1 he2
    have hc0 : wc.cell? ⟨g, 0, none⟩ = some (.int .i64 K.most) := cell_at HS3.out.blk 0 rfl
    have hc2 : wc.cell? ⟨g, 2, none⟩ = some (.int .i64 K.dl) := cell_at HS3.out.blk 2 rfl
    have hc6 : wc.cell? ⟨g, 6, none⟩ = some (.slice (some ⟨q, o, none⟩) n cc) := cell_at HS3.out.blk 6 rfl
    obtain ⟨he0, he1, he2⟩ := HS3.out.due HD.out
    go_wp2
    go_quiet (fail)
    obtain ⟨w4, hw⟩ : ∃ x, x = wc.drewN nq := ⟨_, rfl⟩
    have HS4 : Hid (Sp w0 w w4 g K A ln c σ q o n cc p) := by rw [hw]; exact Lib.hid (HS3.out.only0 ((Only.refl _ _).drewN _))
    rw [← hw]
    clear hw hc0 hc2 hc6 he0 he1 he2
    have hc2 : w4.cell? ⟨g, 2, none⟩ = some (.int .i64 K.dl) := cell_at HS4.out.blk 2 rfl
    have HS5 := HS4
    have hc6 : w4.cell? ⟨g, 6, none⟩ = some (.slice (some ⟨q, o, none⟩) n cc) := cell_at HS5.out.blk 6 rfl
    obtain ⟨he0, he1, he2⟩ := HS5.out.due HD.out
    have hk1 : wrap64 ((k : Int) + 1) = (k : Int) + 1 := by unfold wrap64; omega
    have hk2 : IntKind.i64.wrap ((k : Int) + 1) = (k : Int) + 1 := by rw [IntKind.wrap_i64]; omega
    have HS6 := Lib.hid (HS5.out.only0 ((Only.refl (fun _ => False) w4).alloc (.cells #[.int .i64 d.t, .int .i64 d.who, .int .i64 d.code] 51)))
    have HX6 := Lib.hid (heap_alloc_new w4 (.cells #[.int .i64 d.t, .int .i64 d.who, .int .i64 d.code] 51))
    have HW5 := Lib.hid HS5.out.only.size
    go_upto_region 13 with fail
    clear hc2 hc6 he0 he1 he2
    generalize w4.alloc (.cells #[.int .i64 d.t, .int .i64 d.who, .int .i64 d.code] 51) = w6 at *
    obtain ⟨p2, hp2⟩ : ∃ x, x = w4.heap.size := ⟨_, rfl⟩
    rw [← hp2] at HX6 ⊢
    have hp2w : w.heap.size ≤ p2 := by have := HW5.out; omega
    have hp2n : p2 ≠ p := fun e => by have h1 := HS6.out.box; have h2 := HX6.out; rw [e, h1] at h2; simp at h2
    clear hp2 HW5
    obtain ⟨n1, hn1⟩ : ∃ x, x = n - 1 := ⟨_, rfl⟩
    have HN1 := Lib.hid hn1
    clear hn1
    go_cut [] (fun wx => ∃ A6 c6, Hid (wx.heap[g]? = some (.cells #[.int .i64 K.most, .int .i64 K.delay, .int .i64 K.dl, .slice A ln c, .int .i64 σ.sent, .int .i64 σ.next, .slice A6 (n1) c6] 40 (0, 0))) ∧
      Hid (Row 3 51 wx (fun z => w0.heap.size ≤ z) (.slice A6 (n1) c6) (n1) ((σ.out.take k ++ σ.out.drop (k + 1)).flatMap encD)) ∧
      Hid (wx.heap[p]? = some (.cells #[.int .i64 0, .int .i64 0, .int .i64 0, .int .i64 0] 25 (0, 0))) ∧ Hid (wx.heap[p2]? = some (.cells #[.int .i64 d.t, .int .i64 d.who, .int .i64 d.code] 51 (0, 0))) ∧ Hid (Below w0.heap.size w0 wx))
    case first =>
      have hc6 : w6.cell? ⟨g, 6, none⟩ = some (.slice (some ⟨q, o, none⟩) n cc) := cell_at HS6.out.blk 6 rfl
      obtain ⟨A6, c6, w7, hr6, hR6, ho6⟩ := Ds.without' (W := w6.drew) HN.out (by exact HS6.out.row) hn5 hcn (fun z hz => by have h1 := HS6.out.only.size; have h2 := HG.out.bel.size; have h3 : w6.heap.size ≤ z := hz; omega) k hkn
      have HR6 := Lib.hid hR6
      have HO6 : Hid (Only (fun z => z = q) w6 w7) := Lib.hid ((Only.refl _ w6).drew.trans ho6)
      have hb6 := HO6.out.blk HS6.out.blk (by have := Row.ne HS6.out.row HS6.out.blk (by decide); simp [Value.ownBlock] at this; omega)
      have hx6 : w7.cell? ⟨g, 6, none⟩ = some (.slice (some ⟨q, o, none⟩) n cc) := cell_at hb6 6 rfl
      have hf6 : w7.frozen? ⟨g, 6, none⟩ = false := blk_frozen hb6 6
      have HB7 : Hid ((w7.setCell ⟨g, 6, none⟩ (.slice A6 (n - 1) c6)).heap[g]? = some (.cells #[.int .i64 K.most, .int .i64 K.delay, .int .i64 K.dl, .slice A ln c, .int .i64 σ.sent, .int .i64 σ.next, .slice A6 (n - 1) c6] 40 (0, 0))) := Lib.hid (blk_set hb6 6 _)
      have hO7 : Only (fun z => z = g) w7 (w7.setCell ⟨g, 6, none⟩ (.slice A6 (n - 1) c6)) := (Only.refl (fun z => z = g) w7).setCell (p := ⟨g, 6, none⟩) (.inl rfl) _
      have HR7 := Lib.hid (HR6.out.only hO7 (fun i hi e => Row.ne HR6.out hb6 (by decide) (by rw [hi, e])))
      have hpp := HP.out
      have HP7 := Lib.hid (hO7.blk (HO6.out.blk HS6.out.box (by omega)) (by omega))
      have HX7 := Lib.hid (hO7.blk (HO6.out.blk HX6.out (by omega)) (by omega))
      clear hpp
      have HO7 : Hid (Only (fun z => z = g ∨ z = q) w (w7.setCell ⟨g, 6, none⟩ (.slice A6 (n - 1) c6))) := Lib.hid (((HS6.out.only.mono (fun _ h => h.elim)).trans (HO6.out.mono (fun _ h => .inr h))).trans (hO7.mono (fun _ h => .inl h)))
      clear hb6 hO7 hR6 ho6
      have hk1c : k + 1 ≤ cc := by omega
      have hk1n : k + 1 ≤ n := by omega
      have hkc : k ≤ cc := by omega
      have i1 : (k : Int) ≤ (k : Int) + 1 := by omega
      have i2 : (0 : Int) ≤ (k : Int) + 1 := by omega
      have i3 : (k : Int) + 1 ≤ (n : Int) := by omega
      have i4 : (k : Int) ≤ (cc : Int) := by omega
      have i5 : (k : Int) + 1 ≤ (cc : Int) := by omega
      have i6 : (0 : Int) ≤ (k : Int) := by omega
      have i7 : (n : Int) ≤ (cc : Int) := by omega
      have HCC : Hid (Below w0.heap.size w0 (w7.setCell ⟨g, 6, none⟩ (.slice A6 (n - 1) c6))) := Lib.hid (HO7.out.below HG.out.bel HG.out.bel.size (fun i hi => by
        have h1 := HG.out.ge
        have h2 := (Row.own HG.out.row (k := q) (by simp [Value.ownBlock])).1
        omega))
      have HL7 := Lib.hid (show True from trivial)
      have HFIN : Hid (∃ A6' c6', Hid ((w7.setCell ⟨g, 6, none⟩ (.slice A6 (n - 1) c6)).heap[g]? = some (.cells #[.int .i64 K.most, .int .i64 K.delay, .int .i64 K.dl, .slice A ln c, .int .i64 σ.sent, .int .i64 σ.next, .slice A6' (n - 1) c6'] 40 (0, 0))) ∧
        Hid (Row 3 51 (w7.setCell ⟨g, 6, none⟩ (.slice A6 (n - 1) c6)) (fun z => w0.heap.size ≤ z) (.slice A6' (n - 1) c6') (n - 1) ((σ.out.take k ++ σ.out.drop (k + 1)).flatMap encD)) ∧
        Hid ((w7.setCell ⟨g, 6, none⟩ (.slice A6 (n - 1) c6)).heap[p]? = some (.cells #[.int .i64 0, .int .i64 0, .int .i64 0, .int .i64 0] 25 (0, 0))) ∧ Hid ((w7.setCell ⟨g, 6, none⟩ (.slice A6 (n - 1) c6)).heap[p2]? = some (.cells #[.int .i64 d.t, .int .i64 d.who, .int .i64 d.code] 51 (0, 0))) ∧ Hid (Below w0.heap.size w0 (w7.setCell ⟨g, 6, none⟩ (.slice A6 (n - 1) c6)))) := Lib.hid ⟨A6, c6, HB7, HR7, HP7, HX7, HCC⟩
      rw [← HN1.out] at hr6 HFIN
      clear HB7 HR7 HP7 HX7 HO7 HCC HR6 HO6 HS6 HX6 HS5 HS4 HS3 HS2 HS1
      go_region_law ((rw [if_pos (by rfl)]; refine Go.Lib.wp_append_run_sl _ (.tmp 86) (.tmp 93) 38 rfl _ _ rfl rfl hr6 ?_))
      all_goals (go_wp2_with fail)
      all_goals (go_meet; exact HFIN.out)
    case rest =>
      obtain ⟨A6, c6, HB7, HR7, HP7, HX7, HCC⟩ := hcut
      clear HS6 HX6 HS5 HS4 HS3 HS2 HS1
      have hpp := HP.out
      have hbp : w0.heap.size ≤ p := by have := HG.out.bel.size; omega
      clear hpp
      have HLEN : Hid (n1 = (σ.out.take k ++ σ.out.drop (k + 1)).length) := Lib.hid (by have h1 := HN.out; have h2 := HN1.out; rw [List.length_append, List.length_take, List.length_drop]; omega)
      have HGM : Hid (Gm w0 wc g K A c ⟨σ.sent, σ.next, σ.out.take k ++ σ.out.drop (k + 1)⟩ (.slice A6 n1 c6)) := Lib.hid ⟨by rw [← HLN.out]; exact HB7.out, by have := HR7.out; show Row 3 51 wc _ _ (List.length _) _; rw [← HLEN.out]; exact this, HG.out.ge, HG.out.ans, HCC.out⟩
      obtain ⟨ab, hab⟩ : ∃ ab, ab = againB d.code := ⟨_, rfl⟩
      have HAG : Hid (∀ w, Calls Try.prog 25 #[.int .i64 d.code] w fun e w' => e = .returned (.bool ab) ∧ w' = w) := Lib.hid (fun w => by rw [hab]; exact (again_p d.code w).mono fun _ _ h => ⟨h.1, h.2.symm⟩)
      have HAB := Lib.hid hab
      clear hab
      have hc0 : wc.cell? ⟨g, 0, none⟩ = some (.int .i64 K.most) := cell_at HB7.out 0 rfl
      have hc4 : wc.cell? ⟨g, 4, none⟩ = some (.int .i64 σ.sent) := cell_at HB7.out 4 rfl
      have hc6 : wc.cell? ⟨g, 6, none⟩ = some (.slice A6 n1 c6) := cell_at HB7.out 6 rfl
      have he0 : wc.cell? ⟨p2, 0, none⟩ = some (.int .i64 d.t) := cell_at HX7.out 0 rfl
      have he1 : wc.cell? ⟨p2, 1, none⟩ = some (.int .i64 d.who) := cell_at HX7.out 1 rfl
      have he2 : wc.cell? ⟨p2, 2, none⟩ = some (.int .i64 d.code) := cell_at HX7.out 2 rfl
      obtain ⟨w8, hw8⟩ : ∃ x, x = wc := ⟨_, rfl⟩
      rw [← hw8] at HB7 HR7 HP7 HX7 HCC HGM hc0 hc4 hc6 he0 he1 he2 ⊢
      clear hw8
      go_upto_region 14 with fail
      go_cut [124] (fun s wx => s = .bool (decide (ab = false ∨ (K.most ≤ σ.sent ∧ n1 = 0))) ∧ ∃ m, wx = w8.drewN m)
      case first =>
        by_cases hz : d.code = 0
        · have hb : (d.code == 0) = true := by simp [hz]
          have hf : ab = false := by rw [HAB.out, hz]; rfl
          have hD : decide (ab = false ∨ (K.most ≤ σ.sent ∧ n1 = 0)) = true := decide_eq_true (.inl hf)
          have HD := Lib.hid hD
          clear hD hf hz
          go_quiet ((go_at_call 25; exact Calls.quiet_of_same (HAG.out _)))
          go_wp2_with fail
          go_meet
          exact ⟨by rw [HD.out], _, rfl⟩
        · have hb : (d.code == 0) = false := by simp [hz]
          clear hz
          cases ab with
          | false =>
            have hD : decide ((false : Bool) = false ∨ (K.most ≤ σ.sent ∧ n1 = 0)) = true := by simp
            have HD := Lib.hid hD
            clear hD
            go_quiet ((go_at_call 25; exact Calls.quiet_of_same (HAG.out _)))
            go_wp2_with fail
            go_meet
            exact ⟨by rw [HD.out], _, rfl⟩
          | true =>
            by_cases h5 : K.most ≤ σ.sent
            · by_cases h6 : n1 = 0
              · have hD : decide ((true : Bool) = false ∨ (K.most ≤ σ.sent ∧ n1 = 0)) = true := decide_eq_true (.inr ⟨h5, h6⟩)
                have h7 : decide (K.most ≤ σ.sent) = true := decide_eq_true h5
                have h8 : ((n1 : Int) == 0) = true := by simp [h6]
                have HD := Lib.hid hD
                clear hD h5 h6
                go_quiet ((go_at_call 25; exact Calls.quiet_of_same (HAG.out _)))
                go_wp2_with fail
                go_meet
                exact ⟨by rw [HD.out], _, rfl⟩
              · have hD : decide ((true : Bool) = false ∨ (K.most ≤ σ.sent ∧ n1 = 0)) = false := decide_eq_false (by rintro (h | ⟨_, h⟩); cases h; exact h6 h)
                have h7 : decide (K.most ≤ σ.sent) = true := decide_eq_true h5
                have h8 : ((n1 : Int) == 0) = false := by simp [h6]
                have HD := Lib.hid hD
                clear hD h5 h6
                go_quiet ((go_at_call 25; exact Calls.quiet_of_same (HAG.out _)))
                go_wp2_with fail
                go_meet
                exact ⟨by rw [HD.out], _, rfl⟩
            · have hD : decide ((true : Bool) = false ∨ (K.most ≤ σ.sent ∧ n1 = 0)) = false := decide_eq_false (by rintro (h | ⟨h, _⟩); cases h; exact h5 h)
              have h7 : decide (K.most ≤ σ.sent) = false := decide_eq_false h5
              have HD := Lib.hid hD
              clear hD h5
              go_quiet ((go_at_call 25; exact Calls.quiet_of_same (HAG.out _)))
              go_wp2_with fail
              go_meet
              exact ⟨by rw [HD.out], _, rfl⟩
      case rest =>
        clear hc0 hc4 hc6 he0 he1 he2
        obtain ⟨rfl, m, hwc⟩ := hcut
        have HB8 : Hid (wc.heap[g]? = some (.cells #[.int .i64 K.most, .int .i64 K.delay, .int .i64 K.dl, .slice A ln c, .int .i64 σ.sent, .int .i64 σ.next, .slice A6 n1 c6] 40 (0, 0))) := by rw [hwc]; exact HB7
        have HP8 : Hid (wc.heap[p]? = some (.cells #[.int .i64 0, .int .i64 0, .int .i64 0, .int .i64 0] 25 (0, 0))) := by rw [hwc]; exact HP7
        have HX8 : Hid (wc.heap[p2]? = some (.cells #[.int .i64 d.t, .int .i64 d.who, .int .i64 d.code] 51 (0, 0))) := by rw [hwc]; exact HX7
        have HGM8 : Hid (Gm w0 wc g K A c ⟨σ.sent, σ.next, σ.out.take k ++ σ.out.drop (k + 1)⟩ (.slice A6 n1 c6)) := by rw [hwc]; exact Lib.hid (HGM.out.only0 ((Only.refl _ _).drewN _))
        obtain ⟨w9, hw9⟩ : ∃ x, x = wc := ⟨_, rfl⟩
        rw [← hw9] at HB8 HP8 HX8 HGM8 ⊢
        clear hw9 hwc HB7 HR7 HP7 HX7 HGM HCC
        have hc0 : w9.cell? ⟨g, 0, none⟩ = some (.int .i64 K.most) := cell_at HB8.out 0 rfl
        have hc4 : w9.cell? ⟨g, 4, none⟩ = some (.int .i64 σ.sent) := cell_at HB8.out 4 rfl
        have he0 : w9.cell? ⟨p2, 0, none⟩ = some (.int .i64 d.t) := cell_at HX8.out 0 rfl
        have he1 : w9.cell? ⟨p2, 1, none⟩ = some (.int .i64 d.who) := cell_at HX8.out 1 rfl
        have he2 : w9.cell? ⟨p2, 2, none⟩ = some (.int .i64 d.code) := cell_at HX8.out 2 rfl
        have HOL : Hid (n1 = 0 ↔ σ.out.length = 1) := Lib.hid (by have h1 := HN.out; have h2 := HN1.out; omega)
        by_cases hdn : ab = false ∨ (K.most ≤ σ.sent ∧ n1 = 0)
        · have hD : decide (ab = false ∨ (K.most ≤ σ.sent ∧ n1 = 0)) = true := decide_eq_true hdn
          have HDN : Hid (againB d.code = false ∨ (K.most ≤ σ.sent ∧ σ.out.length = 1)) := Lib.hid (hdn.imp (fun h => by rw [← HAB.out]; exact h) (fun h => ⟨h.1, HOL.out.1 h.2⟩))
          clear hdn
          rw [hD]
          clear hD
          go_wp2
          go_still_tail 11, (by kernel_rfl)
          repeat still_step
          change wpList _ _ _ _ _ w9.drew
          have HP9 : Hid (w9.drew.heap[p]? = some (.cells #[.int .i64 0, .int .i64 0, .int .i64 0, .int .i64 0] 25 (0, 0))) := HP8
          have HB9 : Hid (Below w0.heap.size w0 w9.drew) := Lib.hid (HGM8.out.bel.drew)
          go_wp2_with ((with_reducible refine gate_store (ty := 25) (x := .tmp 2) (y := .tmp 135) rfl ?_); go_loud (refine wpList_store_row rfl 25 (.tmp 2) (.tmp 135) rfl p #[.int .i64 d.code, .int .i64 d.t, .int .i64 σ.sent, .int .i64 d.who] rfl rfl 25 _ HP9.out (by kernel_rfl) rfl (by simp [Value.oneCell']) ?_))
          (try simp only [Exit.inBlock, Exit.then])
          refine bodyPost_ret (results_cell2 rfl _ _ p 25 _ (0, 0) _ rfl (setRow_heap _ _ _ _ _ _ HP9.out) Try.underlying25 rfl (by kernel_rfl)) rfl ?_
          show TakePost _ _ _ _ _ _ _ _ _ _
          exact ⟨fun _ => ⟨rfl, (only_setRow (S := fun k => k = p) (Only.refl _ _) (.inl rfl) _).below HB9.out HB9.out.size (fun i hi => by omega)⟩, fun h => absurd HDN.out h⟩
        · have hD : decide (ab = false ∨ (K.most ≤ σ.sent ∧ n1 = 0)) = false := decide_eq_false hdn
          have HDN : Hid (¬ (againB d.code = false ∨ (K.most ≤ σ.sent ∧ σ.out.length = 1))) := Lib.hid (fun h => hdn (h.imp (fun h => by rw [HAB.out]; exact h) (fun h => ⟨h.1, HOL.out.2 h.2⟩)))
          clear hdn
          rw [hD]
          clear hD
          by_cases hs : σ.sent < K.most
          · have hd : decide (σ.sent < K.most) = true := decide_eq_true hs
            have HHS := Lib.hid hs
            clear hs
            go_wp2
            go_quiet (fail)
            obtain ⟨w10, hw10⟩ : ∃ x, x = w9.drewN nq := ⟨_, rfl⟩
            have HP10 : Hid (w10.heap[p]? = some (.cells #[.int .i64 0, .int .i64 0, .int .i64 0, .int .i64 0] 25 (0, 0))) := by rw [hw10]; exact HP8
            have HX10 : Hid (w10.heap[p2]? = some (.cells #[.int .i64 d.t, .int .i64 d.who, .int .i64 d.code] 51 (0, 0))) := by rw [hw10]; exact HX8
            have HGM10 : Hid (Gm w0 w10 g K A c ⟨σ.sent, σ.next, σ.out.take k ++ σ.out.drop (k + 1)⟩ (.slice A6 n1 c6)) := by rw [hw10]; exact Lib.hid (HGM8.out.only0 ((Only.refl _ _).drewN _))
            rw [← hw10]
            clear hw10 hc0 hc4 he0 he1 he2
            have he0 : w10.cell? ⟨p2, 0, none⟩ = some (.int .i64 d.t) := cell_at HX10.out 0 rfl
            have HSE := Lib.hid (send_p HGM10.out ⟨HOK.out.s0, by have h1 := HOK.out.most; have h2 := HHS.out; show σ.sent ≤ 4; omega⟩ (by show List.length _ ≤ 5; rw [← HLEN.out]; have := HN1.out; omega) d.t)
            have HNP : Hid (¬ (Value.slice A6 n1 c6).ownBlock = some p) := Lib.hid (HGM10.out.row.ne HP10.out (by decide))
            go_wp2_with (first | (go_at_call 16; refine HSE.out.mono ?_; rintro e w11 ⟨rfl, v11, h11, o11⟩; have HG11 := Lib.hid h11; have HP11 := Lib.hid (o11.blk HP10.out (fun e => e.elim (fun e => by omega) HNP.out)); clear h11 o11) | ((with_reducible refine gate_store (ty := 25) (x := .tmp 2) (y := .tmp 149) rfl ?_); go_loud (refine wpList_store_row rfl 25 (.tmp 2) (.tmp 149) rfl p #[.int .i64 0, .int .i64 0, .int .i64 0, .int .i64 0] rfl rfl 25 _ HP11.out (by kernel_rfl) rfl (by simp [Value.oneCell']) ?_)))
            (try simp only [Exit.inBlock, Exit.then])
            refine bodyPost_ret (results_cell2 rfl _ _ p 25 _ (0, 0) _ rfl (setRow_heap _ _ _ _ _ _ HP11.out) Try.underlying25 rfl (by kernel_rfl)) rfl ?_
            have hset : Only (fun k => k = p) w11 (w11.setRow p #[.int .i64 0, .int .i64 0, .int .i64 0, .int .i64 0]) := only_setRow (S := fun k => k = p) (Only.refl _ _) (.inl rfl) _
            show TakePost _ _ _ _ _ _ _ _ _ _
            exact ⟨fun h => absurd h HDN.out, fun _ => ⟨rfl, v11, by rw [if_pos HHS.out]; exact ⟨hset.blk HG11.out.blk (by omega), HG11.out.row.only hset (fun i hi e => HG11.out.row.ne HP11.out (by decide) (by rw [hi, e])), HG11.out.ge, HG11.out.ans, hset.below HG11.out.bel HG11.out.bel.size (fun i hi => by omega)⟩⟩⟩
          · have hd : decide (σ.sent < K.most) = false := decide_eq_false hs
            have HHS := Lib.hid hs
            clear hs
            go_wp2
            go_quiet (fail)
            obtain ⟨w10, hw10⟩ : ∃ x, x = w9.drewN nq := ⟨_, rfl⟩
            have HP10 : Hid (w10.heap[p]? = some (.cells #[.int .i64 0, .int .i64 0, .int .i64 0, .int .i64 0] 25 (0, 0))) := by rw [hw10]; exact HP8
            have HGM10 : Hid (Gm w0 w10 g K A c ⟨σ.sent, σ.next, σ.out.take k ++ σ.out.drop (k + 1)⟩ (.slice A6 n1 c6)) := by rw [hw10]; exact Lib.hid (HGM8.out.only0 ((Only.refl _ _).drewN _))
            rw [← hw10]
            clear hw10 hc0 hc4 he0 he1 he2
            go_wp2_with ((with_reducible refine gate_store (ty := 25) (x := .tmp 2) (y := .tmp 149) rfl ?_); go_loud (refine wpList_store_row rfl 25 (.tmp 2) (.tmp 149) rfl p #[.int .i64 0, .int .i64 0, .int .i64 0, .int .i64 0] rfl rfl 25 _ HP10.out (by kernel_rfl) rfl (by simp [Value.oneCell']) ?_))
            (try simp only [Exit.inBlock, Exit.then])
            refine bodyPost_ret (results_cell2 rfl _ _ p 25 _ (0, 0) _ rfl (setRow_heap _ _ _ _ _ _ HP10.out) Try.underlying25 rfl (by kernel_rfl)) rfl ?_
            have hset : Only (fun k => k = p) w10 (w10.setRow p #[.int .i64 0, .int .i64 0, .int .i64 0, .int .i64 0]) := only_setRow (S := fun k => k = p) (Only.refl _ _) (.inl rfl) _
            show TakePost _ _ _ _ _ _ _ _ _ _
            exact ⟨fun h => absurd h HDN.out, fun _ => ⟨rfl, _, by rw [if_neg (show ¬ σ.sent < K.most by have := HHS.out; omega)]; exact ⟨hset.blk HGM10.out.blk (by omega), HGM10.out.row.only hset (fun i hi e => HGM10.out.row.ne HP10.out (by decide) (by rw [hi, e])), HGM10.out.ge, HGM10.out.ans, hset.below HGM10.out.bel HGM10.out.bel.size (fun i hi => by omega)⟩⟩⟩

end Go.Proofs.Ytpkmpbocgbmliaa.Hd

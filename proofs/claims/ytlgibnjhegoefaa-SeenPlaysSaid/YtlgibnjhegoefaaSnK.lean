/- The reference's Mark. -/
import Derived.Test.YtlgibnjhegoefaaSnR
import Derived.Lib.SlFresh
import Derived.Deep.RegionLaw
set_option linter.unusedVariables false
set_option linter.unusedSimpArgs false
namespace Go.Proofs.Ytlgibnjhegoefaa.Sn
open Go.RowKit Go.Maps Go.Proofs.Ytlgibnjhegoefaa.Base Go.Proofs.Ytlgibnjhegoefaa.Rws Go.Proofs.YtlgibnjhegoefaaW.PrintWords Go.Proofs.YtlgibnjhegoefaaW.PrintMore
attribute [local go_sem] max2_mx min2_mn max_two min_two max_three min_three max_four min_four

/-- Items lie in no block of another type. -/
theorem own9 {w : World} {P : Nat → Prop} {v : Value} {L : List (K4 × Int)} (h : Items w P v L) {g : Nat} {cs : Array Value} {t : TypeId} (hg : w.heap[g]? = some (.cells cs t (0, 0))) (ht : t ≠ 50 := by decide) : ¬ v.ownBlock = some g := Row.ne h hg ht

/-- What the reference's mark leaves. -/
def MkR (h : Nat) (L : List (K4 × Int)) (r : Bool) (w : World) (e : Ending) (w' : World) : Prop :=
  e = .returned (.bool r) ∧ ∃ v, RB w' h v ∧ Items w' (fun k => w.heap.size ≤ k) v L ∧ Only (fun k => k = h) w w'

set_option maxHeartbeats 4000000 in
set_option maxRecDepth 100000 in
theorem mark_r {h : Nat} {v : Value} {P : Nat → Prop} {L : List (K4 × Int)} (w : World) (hb : RB w h v) (hL : Items w P v L) (hl : L.length ≤ 1000) (k : K4) (u n : Int) :
    Calls Try.prog 12 #[.pointer (some ⟨h, 0, none⟩), k.v, .int .i64 u, .int .i64 n] w (MkR h (markL L k u n).2 (markL L k u n).1 w) := by
  obtain ⟨A, c, rfl, hnc⟩ := hL.form
  have HO1 : Hid (Only (fun _ => False) w (w.alloc (.cells #[.int .i64 k.a, .int .i64 k.b, .int .i64 k.c, .int .i64 k.d] 25))) := Lib.hid ((Only.refl _ w).alloc _)
  have HK := Lib.hid (heap_alloc_new w (.cells #[.int .i64 k.a, .int .i64 k.b, .int .i64 k.c, .int .i64 k.d] 25))
  obtain ⟨m, hm⟩ : ∃ m, m = L.length := ⟨_, rfl⟩
  rw [← hm] at hb hl hnc
  have hhw : h < w.heap.size := blk_lt hb
  have HB := Lib.hid hb
  have HL := Lib.hid hL
  have HM := Lib.hid hm
  have HP : Hid (kept (L.filter (fun p => decide (cl n < p.2))) k = true ∨ cl u ≤ cl n ∨ 512 ≤ (L.filter (fun p => decide (cl n < p.2))).length → markL L k u n = (false, L.filter (fun p => decide (cl n < p.2)))) := Lib.hid (fun h => if_pos h)
  have HN : Hid (¬ (kept (L.filter (fun p => decide (cl n < p.2))) k = true ∨ cl u ≤ cl n ∨ 512 ≤ (L.filter (fun p => decide (cl n < p.2))).length) → markL L k u n = (true, L.filter (fun p => decide (cl n < p.2)) ++ [(k, cl u)])) := Lib.hid (fun h => if_neg h)
  generalize markL L k u n = M at *
  have hFl : ∀ n', Fl L n' m = L.filter (fun p => decide (n' < p.2)) := fun n' => by unfold Fl; rw [HM.out, List.take_length]
  have HFl := Lib.hid hFl
  have HCU := Lib.hid (clamp_s u)
  have HCN := Lib.hid (clamp_s n)
  clear hb hL hm hFl
  generalize cl n = n' at *
  generalize cl u = u' at *
  unfold K4.v
  go_enter Try.func12, Try.ntmps12
  go_wp2_with fail
  have hqq : (w.alloc (.cells #[.int .i64 k.a, .int .i64 k.b, .int .i64 k.c, .int .i64 k.d] 25)).heap.size = w.heap.size + 1 := by show (w.heap.push _).size = _; simp
  generalize w.alloc (.cells #[.int .i64 k.a, .int .i64 k.b, .int .i64 k.c, .int .i64 k.d] 25) = w1 at *
  go_wp2_with (first | (go_at_call 8; with_reducible refine (HCN.out _).mono ?_; rintro e w' ⟨rfl, rfl⟩) | (go_at_call 8; with_reducible refine (HCU.out _).mono ?_; rintro e w' ⟨rfl, rfl⟩))
  go_loopw [9, 10] (fun vl vi wr => ∃ i : Nat, vi = .int .i64 (i : Int) ∧ i ≤ m ∧ Hid (Items wr (fun q => w.heap.size < q) vl (Fl L n' i)) ∧ Hid (Only (fun _ => False) w1 wr)) (fun _ vi _ => m - (intOf vi).toNat)
  case atStart => exact ⟨0, rfl, by omega, Lib.hid (by simpa [Items, Fl] using Row.nil 5 50 w1 _), Lib.hid (Only.refl _ w1)⟩
  case round =>
    obtain ⟨i, rfl, hi, HI, HO⟩ := hrel
    have HOw : Hid (Only (fun _ => False) w wr) := Lib.hid (HO1.out.trans HO.out)
    have HBr : Hid (RB wr h (.slice A m c)) := Lib.hid (HOw.out.blk HB.out (fun h => h))
    have HKr : Hid (wr.heap[w.heap.size]? = some (.cells #[.int .i64 k.a, .int .i64 k.b, .int .i64 k.c, .int .i64 k.d] 25 (0, 0))) := Lib.hid (HO.out.blk HK.out (fun h => h))
    have HLr : Hid (Row 5 50 wr P (.slice A m c) m (L.flatMap encI)) := Lib.hid (by
      have h1 := HL.out
      unfold Items at h1
      rw [← HM.out] at h1
      exact h1.only HOw.out (fun _ _ h => h))
    have hc0 : wr.cell? ⟨h, 0, none⟩ = some (.slice A m c) := cell_at HBr.out 0 rfl
    have hk0 : wr.cell? ⟨w.heap.size, 0, none⟩ = some (.int .i64 k.a) := cell_at HKr.out 0 rfl
    have hk1 : wr.cell? ⟨w.heap.size, 1, none⟩ = some (.int .i64 k.b) := cell_at HKr.out 1 rfl
    have hk2 : wr.cell? ⟨w.heap.size, 2, none⟩ = some (.int .i64 k.c) := cell_at HKr.out 2 rfl
    have hk3 : wr.cell? ⟨w.heap.size, 3, none⟩ = some (.int .i64 k.d) := cell_at HKr.out 3 rfl
    have hgo : i < m ∨ i = m := by omega
    rcases hgo with hlt | rfl
    · have hlt' : (i : Int) < m := by omega
      obtain ⟨p, hp⟩ : ∃ p, L[i]? = some p := ⟨L[i]'(by have := HM.out; omega), List.getElem?_eq_getElem _⟩
      obtain ⟨g, o, c', hv, _⟩ := HLr.out.some_ (by omega)
      injection hv with e1 e2 e3
      subst e1 e3
      have HPI := Lib.hid hp
      have HFS := Lib.hid (Fl_succ (n := n') hp)
      obtain ⟨j, x⟩ := p
      have hd0 : wr.cell? ⟨g, o + i * 5, none⟩ = some (.int .i64 j.a) := HLr.out.cell (i * 5) (encI_at L i 0 _ HPI.out (by omega))
      have hd1 : wr.cell? ⟨g, o + i * 5 + 1, none⟩ = some (.int .i64 j.b) := HLr.out.cell (i * 5 + 1) (encI_at L i 1 _ HPI.out (by omega))
      have hd2 : wr.cell? ⟨g, o + i * 5 + 2, none⟩ = some (.int .i64 j.c) := HLr.out.cell (i * 5 + 2) (encI_at L i 2 _ HPI.out (by omega))
      have hd3 : wr.cell? ⟨g, o + i * 5 + 3, none⟩ = some (.int .i64 j.d) := HLr.out.cell (i * 5 + 3) (encI_at L i 3 _ HPI.out (by omega))
      have hd4 : wr.cell? ⟨g, o + i * 5 + 4, none⟩ = some (.int .i64 x) := HLr.out.cell (i * 5 + 4) (encI_at L i 4 _ HPI.out (by omega))
      clear hp
      by_cases hx : n' < x
      · obtain ⟨v2, w2, hr2, hI2, hO2⟩ := HI.out.app (fun q hq => by have := HO.out.size; omega) (by have := Fl_le L n' i; omega) j x 37
        have HI2 := Lib.hid hI2
        have HO2 := Lib.hid hO2
        have HR2 := Lib.hid hr2
        clear hI2 hO2 hr2
        go_wp2_with (first | ((with_reducible refine gate_builtin (b := .append) (xs := #[.tmp 34, .tmp 42]) rfl ?_); at_builtin; go_loud (refine Go.Lib.wpList_append_run_sl _ rfl (.tmp 34) (.tmp 42) 37 rfl _ _ rfl rfl HR2.out ?_)))
        go_roundw
        case rel =>
          refine ⟨i + 1, by go_num, by omega, Lib.hid ?_, Lib.hid ?_⟩
          · rw [HFS.out, if_pos hx]
            exact HI2.out
          · exact HO.out.then_ HO2.out (fun q hq => .inr (by have := (HI.out.own hq).1; omega))
        case measure => simp [intOf]; omega
      · go_wp2
        go_roundw
        case rel =>
          refine ⟨i + 1, by go_num, by omega, Lib.hid ?_, HO⟩
          rw [HFS.out, if_neg hx]
          exact HI.out
        case measure => simp [intOf]; omega
    · have hne9 : u9.ownBlock ≠ some h := by
        intro e
        have := (HI.out.own e).1
        omega
      obtain ⟨A9, c9, e9, hnc9⟩ := HI.out.form
      obtain ⟨F, hF⟩ : ∃ F, F = L.filter (fun p => decide (n' < p.2)) := ⟨_, rfl⟩
      have HI2 : Hid (Items wr (fun q => w.heap.size < q) u9 F) := Lib.hid (by rw [hF, ← HFl.out]; exact HI.out)
      rw [HFl.out, ← hF] at e9
      rw [← hF] at HP HN
      obtain ⟨d, hd⟩ : ∃ d, d = F.length := ⟨_, rfl⟩
      have hd2 : d ≤ 1000 := by
        have := List.length_filter_le (fun p : K4 × Int => decide (n' < p.2)) L
        rw [hd, hF]
        have := HM.out
        omega
      have HD := Lib.hid hd
      rw [← hd] at e9
      clear hF hd HI
      subst e9
      have hf0 : wr.frozen? ⟨h, 0, none⟩ = false := blk_frozen HBr.out 0
      have HB3 : Hid (RB (wr.setCell ⟨h, 0, none⟩ (.slice A9 d c9)) h (.slice A9 d c9)) := Lib.hid (blk_set HBr.out 0 _)
      have HO3 : Hid (Only (fun k => k = h) w (wr.setCell ⟨h, 0, none⟩ (.slice A9 d c9))) := Lib.hid ((HOw.out.mono (S2 := fun k => k = h) (fun _ h => h.elim)).setCell (.inl rfl) _)
      have HK3 : Hid ((wr.setCell ⟨h, 0, none⟩ (.slice A9 d c9)).heap[w.heap.size]? = some (.cells #[.int .i64 k.a, .int .i64 k.b, .int .i64 k.c, .int .i64 k.d] 25 (0, 0))) := Lib.hid (((Only.refl (fun k => k = h) wr).setCell (p := ⟨h, 0, none⟩) (.inl rfl) (.slice A9 d c9)).blk HKr.out (by omega))
      have HI3 : Hid (Items (wr.setCell ⟨h, 0, none⟩ (.slice A9 d c9)) (fun q => w.heap.size < q) (.slice A9 d c9) F) := Lib.hid (HI2.out.only ((Only.refl (fun k => k = h) wr).setCell (p := ⟨h, 0, none⟩) (.inl rfl) (.slice A9 d c9)) (fun g hg e => hne9 (by rw [hg, e])))
      have he0 : (wr.setCell ⟨h, 0, none⟩ (.slice A9 d c9)).cell? ⟨h, 0, none⟩ = some (.slice A9 d c9) := cell_at HB3.out 0 rfl
      have hk0' : (wr.setCell ⟨h, 0, none⟩ (.slice A9 d c9)).cell? ⟨w.heap.size, 0, none⟩ = some (.int .i64 k.a) := cell_at HK3.out 0 rfl
      have hk1' : (wr.setCell ⟨h, 0, none⟩ (.slice A9 d c9)).cell? ⟨w.heap.size, 1, none⟩ = some (.int .i64 k.b) := cell_at HK3.out 1 rfl
      have hk2' : (wr.setCell ⟨h, 0, none⟩ (.slice A9 d c9)).cell? ⟨w.heap.size, 2, none⟩ = some (.int .i64 k.c) := cell_at HK3.out 2 rfl
      have hk3' : (wr.setCell ⟨h, 0, none⟩ (.slice A9 d c9)).cell? ⟨w.heap.size, 3, none⟩ = some (.int .i64 k.d) := cell_at HK3.out 3 rfl
      have HH := Lib.hid (has_r (wr.setCell ⟨h, 0, none⟩ (.slice A9 d c9)) HB3.out HI3.out (by rw [← HD.out]; omega) k)
      by_cases hun : u' ≤ n'
      · have HE := Lib.hid (HP.out (.inr (.inl hun)))
        go_wp2
        go_ret
        rw [HE.out]
        exact ⟨rfl, _, HB3.out, HI3.out.to (fun q hq => Nat.le_of_lt (HI3.out.own hq).1), HO3.out⟩
      · by_cases hfull : 512 ≤ d
        · have hfull' : (512 : Int) ≤ d := by omega
          have HE := Lib.hid (HP.out (.inr (.inr (by rw [← HD.out]; exact hfull))))
          go_wp2
          go_ret
          rw [HE.out]
          exact ⟨rfl, _, HB3.out, HI3.out.to (fun q hq => Nat.le_of_lt (HI3.out.own hq).1), HO3.out⟩
        · have hfull' : ¬ (512 : Int) ≤ d := by omega
          obtain ⟨ha, hha⟩ : ∃ ha, ha = kept F k := ⟨_, rfl⟩
          rw [← hha] at HH
          have HA := Lib.hid hha
          clear hha
          cases ha
          · have HE := Lib.hid (HN.out (by
              rintro (h | h | h)
              · rw [← HA.out] at h
                cases h
              · exact hun h
              · exact hfull (by rw [HD.out]; exact h)))
            go_wp2_with (go_at_call 14; refine HH.out.mono ?_; rintro e w5 ⟨rfl, o5⟩; have HB5 := Lib.hid (o5.blk HB3.out (fun h => h)); have HK5 := Lib.hid (o5.blk HK3.out (fun h => h)); have HI5 := Lib.hid (HI3.out.only o5 (fun _ _ h => h)); have HO5 := Lib.hid (HO3.out.trans (o5.mono (fun _ h => h.elim))); clear o5)
            have hx0 : w5.cell? ⟨h, 0, none⟩ = some (.slice A9 d c9) := cell_at HB5.out 0 rfl
            have hy0 : w5.cell? ⟨w.heap.size, 0, none⟩ = some (.int .i64 k.a) := cell_at HK5.out 0 rfl
            have hy1 : w5.cell? ⟨w.heap.size, 1, none⟩ = some (.int .i64 k.b) := cell_at HK5.out 1 rfl
            have hy2 : w5.cell? ⟨w.heap.size, 2, none⟩ = some (.int .i64 k.c) := cell_at HK5.out 2 rfl
            have hy3 : w5.cell? ⟨w.heap.size, 3, none⟩ = some (.int .i64 k.d) := cell_at HK5.out 3 rfl
            clear he0 hk0' hk1' hk2' hk3' hc0 hk0 hk1 hk2 hk3 hf0
            obtain ⟨v2, w2, hr2, hI2, hO2⟩ := Items.app (W := w5.drew) (P := fun q => w.heap.size < q) (v := .slice A9 d c9) (L := F) HI5.out (fun q hq => by have h1 := HO5.out.size; have h2 := (blk_lt HK5.out); have h3 : w5.heap.size ≤ q := hq; omega) (by rw [← HD.out]; omega) k u' 37
            have hr2' : (Builtin.append_ #[37, 37] 37 #[.slice A9 d c9, .slice (some ⟨w5.heap.size, 0, none⟩) 1 1]).run Try.prog (w5.alloc (.cells #[.int .i64 k.a, .int .i64 k.b, .int .i64 k.c, .int .i64 k.d, .int .i64 u'] 50)).drew = .ok v2 w2 := hr2
            have hOA : Only (fun _ => False) w5 (w5.alloc (.cells #[.int .i64 k.a, .int .i64 k.b, .int .i64 k.c, .int .i64 k.d, .int .i64 u'] 50)).drew := ((Only.refl _ w5).alloc _).drew
            have hB2 : RB w2 h (.slice A9 d c9) := hO2.blk (w := w5.drew) HB5.out (own9 HI5.out HB5.out)
            have hK2 := hO2.blk (w := w5.drew) HK5.out (own9 HI5.out HK5.out)
            have hxa : (w5.alloc (.cells #[.int .i64 k.a, .int .i64 k.b, .int .i64 k.c, .int .i64 k.d, .int .i64 u'] 50)).drew.cell? ⟨h, 0, none⟩ = some (.slice A9 d c9) := cell_at (hOA.blk HB5.out (fun h => h)) 0 rfl
            have hya0 : (w5.alloc (.cells #[.int .i64 k.a, .int .i64 k.b, .int .i64 k.c, .int .i64 k.d, .int .i64 u'] 50)).drew.cell? ⟨w.heap.size, 0, none⟩ = some (.int .i64 k.a) := cell_at (hOA.blk HK5.out (fun h => h)) 0 rfl
            have hya1 : (w5.alloc (.cells #[.int .i64 k.a, .int .i64 k.b, .int .i64 k.c, .int .i64 k.d, .int .i64 u'] 50)).drew.cell? ⟨w.heap.size, 1, none⟩ = some (.int .i64 k.b) := cell_at (hOA.blk HK5.out (fun h => h)) 1 rfl
            have hya2 : (w5.alloc (.cells #[.int .i64 k.a, .int .i64 k.b, .int .i64 k.c, .int .i64 k.d, .int .i64 u'] 50)).drew.cell? ⟨w.heap.size, 2, none⟩ = some (.int .i64 k.c) := cell_at (hOA.blk HK5.out (fun h => h)) 2 rfl
            have hya3 : (w5.alloc (.cells #[.int .i64 k.a, .int .i64 k.b, .int .i64 k.c, .int .i64 k.d, .int .i64 u'] 50)).drew.cell? ⟨w.heap.size, 3, none⟩ = some (.int .i64 k.d) := cell_at (hOA.blk HK5.out (fun h => h)) 3 rfl
            have hxb : w2.cell? ⟨h, 0, none⟩ = some (.slice A9 d c9) := cell_at hB2 0 rfl
            have hfb : w2.frozen? ⟨h, 0, none⟩ = false := blk_frozen hB2 0
            have hyb0 : w2.cell? ⟨w.heap.size, 0, none⟩ = some (.int .i64 k.a) := cell_at hK2 0 rfl
            have hyb1 : w2.cell? ⟨w.heap.size, 1, none⟩ = some (.int .i64 k.b) := cell_at hK2 1 rfl
            have hyb2 : w2.cell? ⟨w.heap.size, 2, none⟩ = some (.int .i64 k.c) := cell_at hK2 2 rfl
            have hyb3 : w2.cell? ⟨w.heap.size, 3, none⟩ = some (.int .i64 k.d) := cell_at hK2 3 rfl
            have HI6 := Lib.hid hI2
            have HO6 := Lib.hid hO2
            have HB6 := Lib.hid hB2
            have HK7 := Lib.hid hK2
            clear hr2 hI2 hO2 hOA hB2 hK2
            obtain ⟨A2, c2, e2, _⟩ := HI6.out.form
            subst e2
            have HB7 : Hid (RB (w2.setCell ⟨h, 0, none⟩ (.slice A2 (F ++ [(k, u')]).length c2)) h (.slice A2 (F ++ [(k, u')]).length c2)) := Lib.hid (blk_set HB6.out 0 _)
            have hOS : Only (fun q => q = h) w2 (w2.setCell ⟨h, 0, none⟩ (.slice A2 (F ++ [(k, u')]).length c2)) := (Only.refl (fun q => q = h) w2).setCell (p := ⟨h, 0, none⟩) (.inl rfl) _
            have HI7 : Hid (Items (w2.setCell ⟨h, 0, none⟩ (.slice A2 (F ++ [(k, u')]).length c2)) (fun q => w.heap.size < q) (.slice A2 (F ++ [(k, u')]).length c2) (F ++ [(k, u')])) := Lib.hid (HI6.out.only hOS (fun g hg e => own9 HI6.out HB6.out (by decide) (by rw [hg, e])))
            have HO7 : Hid (Only (fun q => q = h) w (w2.setCell ⟨h, 0, none⟩ (.slice A2 (F ++ [(k, u')]).length c2))) := Lib.hid ((HO5.out.drew.then_ HO6.out (fun q hq => .inr (by have := (HI5.out.own hq).1; omega))).setCell (.inl rfl) _)
            have hk7 := hOS.blk HK7.out (by omega)
            have hz0 : (w2.setCell ⟨h, 0, none⟩ (.slice A2 (F ++ [(k, u')]).length c2)).cell? ⟨w.heap.size, 0, none⟩ = some (.int .i64 k.a) := cell_at hk7 0 rfl
            have hz1 : (w2.setCell ⟨h, 0, none⟩ (.slice A2 (F ++ [(k, u')]).length c2)).cell? ⟨w.heap.size, 1, none⟩ = some (.int .i64 k.b) := cell_at hk7 1 rfl
            have hz2 : (w2.setCell ⟨h, 0, none⟩ (.slice A2 (F ++ [(k, u')]).length c2)).cell? ⟨w.heap.size, 2, none⟩ = some (.int .i64 k.c) := cell_at hk7 2 rfl
            have hz3 : (w2.setCell ⟨h, 0, none⟩ (.slice A2 (F ++ [(k, u')]).length c2)).cell? ⟨w.heap.size, 3, none⟩ = some (.int .i64 k.d) := cell_at hk7 3 rfl
            clear hOS hk7
            generalize (F ++ [(k, u')]).length = d2 at *
            go_region_law ((rw [if_pos (by rfl)]; refine Go.Lib.wp_append_run_sl _ (.tmp 68) (.tmp 72) 37 rfl _ _ rfl rfl hr2' ?_))
            all_goals
              go_wp2
              go_ret
              rw [HE.out]
              exact ⟨rfl, _, HB7.out, HI7.out.to (fun q hq => Nat.le_of_lt (HI7.out.own hq).1), HO7.out⟩
          · have HE := Lib.hid (HP.out (.inl HA.out.symm))
            go_wp2_with (go_at_call 14; refine HH.out.mono ?_; rintro e w5 ⟨rfl, o5⟩; have HB5 := Lib.hid (o5.blk HB3.out (fun h => h)); have HI5 := Lib.hid (HI3.out.only o5 (fun _ _ h => h)); have HO5 := Lib.hid (HO3.out.trans (o5.mono (fun _ h => h.elim))); clear o5)
            go_ret
            rw [HE.out]
            exact ⟨rfl, _, HB5.out, HI5.out.to (fun q hq => Nat.le_of_lt (HI5.out.own hq).1), HO5.out⟩

end Go.Proofs.Ytlgibnjhegoefaa.Sn

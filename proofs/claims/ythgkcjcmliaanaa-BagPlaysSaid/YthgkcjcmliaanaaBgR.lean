/- The contracts of the reference's bag: Send, Is, Look, Twice. -/
import Derived.Test.YthgkcjcmliaanaaBgO
set_option linter.unusedVariables false
set_option linter.unusedSimpArgs false
namespace Go.Proofs.Ythgkcjcmliaanaa.Bg
open Go.RowKit Go.Proofs.Ythgkcjcmliaanaa.Base Go.Proofs.Ythgkcjcmliaanaa.Rws Go.Proofs.YthgkcjcmliaanaaW.PrintWords Go.Proofs.YthgkcjcmliaanaaW.PrintMore
attribute [local go_sem] max2_mx min2_mn max_two min_two max_three min_three max_four min_four

/-- The bag's block: its flights' slice, and how many were lost. -/
def RG (w : World) (g : Nat) (v : Value) (lost : Int) : Prop := w.heap[g]? = some (.cells #[v, .int .i64 lost] 42 (0, 0))
def Rfs (w : World) (P : Nat → Prop) (v : Value) (L : List Fl) : Prop := Row 4 30 w P v L.length (L.flatMap encF)

theorem info30 : (Try.prog.info? 30).map (fun i => (i.zero, i.size, i.bytes)) = some (some (.agg #[.int .i64 0, .int .i64 0, .string ByteArray.empty, .bool false]), 4, 40) := by kernel_rfl

/-- A flight is put behind flights. -/
theorem Rfs.app {W : World} {P : Nat → Prop} {v : Value} {L : List Fl} (h : Rfs W P v L) (hP : ∀ k, W.heap.size ≤ k → P k) (hl : L.length ≤ 2000) (x : Fl) (ty : TypeId) :
    ∃ v1 w1, (Builtin.append_ #[40, 40] ty #[v, .slice (some ⟨W.heap.size, 0, none⟩) 1 1]).run Try.prog (W.alloc (.cells #[.int .i64 x.f, .int .i64 x.t, .string x.s, .bool x.h] 30)) = .ok v1 w1 ∧ Rfs w1 P v1 (L ++ [x]) ∧ Only (fun k => v.ownBlock = some k) W w1 := by
  have hO : Only (fun k => v.ownBlock = some k) W (W.alloc (.cells #[.int .i64 x.f, .int .i64 x.t, .string x.s, .bool x.h] 30)) := (Only.refl _ W).alloc _
  have hnew := heap_alloc_new W (.cells #[.int .i64 x.f, .int .i64 x.t, .string x.s, .bool x.h] 30)
  have hrow : Row 4 30 (W.alloc (.cells #[.int .i64 x.f, .int .i64 x.t, .string x.s, .bool x.h] 30)) P v L.length (L.flatMap encF) := Row.keep h (fun g _ hg => heap_alloc_old W _ hg)
  have hsz : (W.alloc (.cells #[.int .i64 x.f, .int .i64 x.t, .string x.s, .bool x.h] 30)).heap.size = W.heap.size + 1 := by show (W.heap.push _).size = _; simp
  generalize W.alloc (.cells #[.int .i64 x.f, .int .i64 x.t, .string x.s, .bool x.h] 30) = W1 at *
  obtain ⟨v1, w1, hr, hR, ho⟩ := Row.app (ty := ty) hrow Try.underlying40 info30 (by rfl) (fun k hk => hP k (by omega)) ⟨W.heap.size, 0, none⟩ 1 1 (encF x) (by simp [encF]) (fun i u hu => by
    rw [Addr.add_lit, Nat.zero_add]
    refine cell_at hnew i ?_
    simpa [encF] using hu) (by simp [encF, Value.oneCell']) (by omega) (by omega) (by omega)
  refine ⟨v1, w1, hr, ?_, hO.trans ho⟩
  unfold Rfs
  rw [List.length_append, List.length_singleton, List.flatMap_append]
  simpa using hR

theorem Rfs.ne {w : World} {P : Nat → Prop} {v : Value} {L : List Fl} (h : Rfs w P v L) {g : Nat} {cs : Array Value} {t : TypeId} (hg : w.heap[g]? = some (.cells cs t (0, 0))) (ht : t ≠ 30 := by decide) : ¬ v.ownBlock = some g := Row.ne h hg ht

theorem rsend_full {g : Nat} {v : Value} {lost : Int} {P : Nat → Prop} {L : List Fl} (w : World) (hb : RG w g v lost) (hL : Rfs w P v L) (hl : 256 ≤ L.length) (hlo : 0 ≤ lost ∧ lost ≤ 100000) (x : Fl) :
    Calls Try.prog 18 #[.pointer (some ⟨g, 0, none⟩), x.v] w fun e w' => e = .returned (.int .i64 6) ∧ RG w' g v (lost + 1) ∧ Only (fun k => k = g) w w' := by
  obtain ⟨A, c, rfl, hnc⟩ := hL.form
  have HO : Hid (Only (fun _ => False) w (w.alloc (.cells #[.int .i64 x.f, .int .i64 x.t, .string x.s, .bool x.h] 30))) := Lib.hid ((Only.refl _ w).alloc _)
  have HB := Lib.hid (HO.out.blk hb (fun h => h))
  obtain ⟨n, hn⟩ : ∃ n, n = L.length := ⟨_, rfl⟩
  have hl' : (256 : Int) ≤ n := by omega
  have hw : wrap64 (lost + 1) = lost + 1 := by unfold wrap64; omega
  rw [← hn] at HB
  have HN := Lib.hid hn
  clear hb hL hlo hn hl
  have hc0 : (w.alloc (.cells #[.int .i64 x.f, .int .i64 x.t, .string x.s, .bool x.h] 30)).cell? ⟨g, 0, none⟩ = some (.slice A n c) := cell_at HB.out 0 rfl
  have hc1 : (w.alloc (.cells #[.int .i64 x.f, .int .i64 x.t, .string x.s, .bool x.h] 30)).cell? ⟨g, 1, none⟩ = some (.int .i64 lost) := cell_at HB.out 1 rfl
  have hf1 : (w.alloc (.cells #[.int .i64 x.f, .int .i64 x.t, .string x.s, .bool x.h] 30)).frozen? ⟨g, 1, none⟩ = false := blk_frozen HB.out 1
  unfold Fl.v
  go_enter Try.func18, Try.ntmps18
  go_wp2
  go_ret
  exact ⟨rfl, by rw [← HN.out]; exact blk_set HB.out 1 _, (HO.out.mono (S2 := fun k => k = g) (fun _ h => h.elim)).setCell (.inl rfl) _⟩

set_option maxHeartbeats 2000000 in
theorem rsend_ok {g : Nat} {v : Value} {lost : Int} {P : Nat → Prop} {L : List Fl} (w : World) (hb : RG w g v lost) (hL : Rfs w P v L) (hl : L.length < 256) (hP : ∀ k, w.heap.size ≤ k → P k) (x : Fl) :
    Calls Try.prog 18 #[.pointer (some ⟨g, 0, none⟩), x.v] w fun e w' => e = .returned (.int .i64 0) ∧ ∃ v', RG w' g v' lost ∧ Rfs w' P v' (L ++ [x]) ∧ Only (fun k => k = g ∨ v.ownBlock = some k) w w' := by
  obtain ⟨A, c, rfl, hnc⟩ := hL.form
  have HO : Hid (Only (fun _ => False) w (w.alloc (.cells #[.int .i64 x.f, .int .i64 x.t, .string x.s, .bool x.h] 30))) := Lib.hid ((Only.refl _ w).alloc _)
  have HB := Lib.hid (HO.out.blk hb (fun h => h))
  have HL : Hid (Rfs (w.alloc (.cells #[.int .i64 x.f, .int .i64 x.t, .string x.s, .bool x.h] 30)) P (.slice A L.length c) L) := Lib.hid (hL.only HO.out (fun _ _ h => h))
  have HK := Lib.hid (heap_alloc_new w (.cells #[.int .i64 x.f, .int .i64 x.t, .string x.s, .bool x.h] 30))
  have HP := Lib.hid hP
  obtain ⟨n, hn⟩ : ∃ n, n = L.length := ⟨_, rfl⟩
  have hl' : ¬ (256 : Int) ≤ n := by omega
  have hl2 : L.length ≤ 2000 := by omega
  have HL2 := Lib.hid hl2
  rw [← hn] at HB HL ⊢
  have HN := Lib.hid hn
  have hc0 : (w.alloc (.cells #[.int .i64 x.f, .int .i64 x.t, .string x.s, .bool x.h] 30)).cell? ⟨g, 0, none⟩ = some (.slice A n c) := cell_at HB.out 0 rfl
  clear hb hL hn hl hl2 hP
  unfold Fl.v
  go_enter Try.func18, Try.ntmps18
  go_wp2
  generalize w.alloc (.cells #[.int .i64 x.f, .int .i64 x.t, .string x.s, .bool x.h] 30) = w5 at *
  have hx0 : w5.cell? ⟨g, 0, none⟩ = some (.slice A n c) := cell_at HB.out 0 rfl
  have hy0 : w5.cell? ⟨w.heap.size, 0, none⟩ = some (.int .i64 x.f) := cell_at HK.out 0 rfl
  have hy1 : w5.cell? ⟨w.heap.size, 1, none⟩ = some (.int .i64 x.t) := cell_at HK.out 1 rfl
  have hy2 : w5.cell? ⟨w.heap.size, 2, none⟩ = some (.string x.s) := cell_at HK.out 2 rfl
  have hy3 : w5.cell? ⟨w.heap.size, 3, none⟩ = some (.bool x.h) := cell_at HK.out 3 rfl
  obtain ⟨v2, w2, hr2, hI2, hO2⟩ := Rfs.app (W := w5.drew) (P := P) (v := .slice A n c) (L := L) HL.out (fun q hq => HP.out q (by have h1 := HO.out.size; have h3 : w5.heap.size ≤ q := hq; omega)) HL2.out x 40
  have hr2' : (Builtin.append_ #[40, 40] 40 #[.slice A n c, .slice (some ⟨w5.heap.size, 0, none⟩) 1 1]).run Try.prog (w5.alloc (.cells #[.int .i64 x.f, .int .i64 x.t, .string x.s, .bool x.h] 30)).drew = .ok v2 w2 := hr2
  have hOA : Only (fun _ => False) w5 (w5.alloc (.cells #[.int .i64 x.f, .int .i64 x.t, .string x.s, .bool x.h] 30)).drew := ((Only.refl _ w5).alloc _).drew
  have hB2 : RG w2 g (.slice A n c) lost := hO2.blk (w := w5.drew) HB.out (Rfs.ne HL.out HB.out)
  have hxa : (w5.alloc (.cells #[.int .i64 x.f, .int .i64 x.t, .string x.s, .bool x.h] 30)).drew.cell? ⟨g, 0, none⟩ = some (.slice A n c) := cell_at (hOA.blk HB.out (fun h => h)) 0 rfl
  have hya0 : (w5.alloc (.cells #[.int .i64 x.f, .int .i64 x.t, .string x.s, .bool x.h] 30)).drew.cell? ⟨w.heap.size, 0, none⟩ = some (.int .i64 x.f) := cell_at (hOA.blk HK.out (fun h => h)) 0 rfl
  have hya1 : (w5.alloc (.cells #[.int .i64 x.f, .int .i64 x.t, .string x.s, .bool x.h] 30)).drew.cell? ⟨w.heap.size, 1, none⟩ = some (.int .i64 x.t) := cell_at (hOA.blk HK.out (fun h => h)) 1 rfl
  have hya2 : (w5.alloc (.cells #[.int .i64 x.f, .int .i64 x.t, .string x.s, .bool x.h] 30)).drew.cell? ⟨w.heap.size, 2, none⟩ = some (.string x.s) := cell_at (hOA.blk HK.out (fun h => h)) 2 rfl
  have hya3 : (w5.alloc (.cells #[.int .i64 x.f, .int .i64 x.t, .string x.s, .bool x.h] 30)).drew.cell? ⟨w.heap.size, 3, none⟩ = some (.bool x.h) := cell_at (hOA.blk HK.out (fun h => h)) 3 rfl
  have hxb : w2.cell? ⟨g, 0, none⟩ = some (.slice A n c) := cell_at hB2 0 rfl
  have hfb : w2.frozen? ⟨g, 0, none⟩ = false := blk_frozen hB2 0
  have HI6 := Lib.hid hI2
  have HO6 := Lib.hid hO2
  have HB6 := Lib.hid hB2
  clear hr2 hI2 hO2 hOA hB2 hc0
  obtain ⟨A2, c2, e2, _⟩ := HI6.out.form
  subst e2
  have HB7 : Hid (RG (w2.setCell ⟨g, 0, none⟩ (.slice A2 (L ++ [x]).length c2)) g (.slice A2 (L ++ [x]).length c2) lost) := Lib.hid (blk_set HB6.out 0 _)
  have HI7 : Hid (Rfs (w2.setCell ⟨g, 0, none⟩ (.slice A2 (L ++ [x]).length c2)) P (.slice A2 (L ++ [x]).length c2) (L ++ [x])) := Lib.hid (Row.only HI6.out ((Only.refl (fun q => q = g) w2).setCell (p := ⟨g, 0, none⟩) (.inl rfl) _) (fun k hk e => Rfs.ne HI6.out HB6.out (by decide) (by rw [hk, e])))
  have HO7 : Hid (Only (fun q => q = g ∨ (Value.slice A n c).ownBlock = some q) w (w2.setCell ⟨g, 0, none⟩ (.slice A2 (L ++ [x]).length c2))) := Lib.hid (((HO.out.drew.mono (S2 := fun q => q = g ∨ (Value.slice A n c).ownBlock = some q) (fun _ h => h.elim)).trans (HO6.out.mono (fun _ h => .inr h))).setCell (.inl (.inl rfl)) _)
  generalize (L ++ [x]).length = d2 at *
  go_region_law ((rw [if_pos (by rfl)]; refine Go.Lib.wp_append_run_sl _ (.tmp 22) (.tmp 24) 40 rfl _ _ rfl rfl hr2' ?_))
  all_goals
    go_wp2
    go_ret
    exact ⟨rfl, _, HB7.out, HI7.out, HO7.out⟩


theorem ris_p {g : Nat} {v : Value} {lost : Int} {P : Nat → Prop} {L : List Fl} (w : World) (hb : RG w g v lost) (hL : Rfs w P v L) (k : Int) :
    Calls Try.prog 24 #[.pointer (some ⟨g, 0, none⟩), .int .i64 k] w fun e w' => e = .returned (.bool (decide (0 ≤ k ∧ k < (L.length : Int)))) ∧ w = w' := by
  obtain ⟨A, c, rfl, hnc⟩ := hL.form
  obtain ⟨n, hn⟩ : ∃ n, n = L.length := ⟨_, rfl⟩
  rw [← hn] at hb ⊢
  have hc0 : w.cell? ⟨g, 0, none⟩ = some (.slice A n c) := cell_at hb 0 rfl
  clear hb hL hn hnc
  have hcs : (¬ 0 ≤ k) ∨ (0 ≤ k ∧ k < (n : Int)) ∨ (0 ≤ k ∧ ¬ k < (n : Int)) := by omega
  rcases hcs with h | ⟨h, h2⟩ | ⟨h, h2⟩
  · rw [decide_eq_false (fun e => h e.1)]
    go_enter Try.func24, Try.ntmps24
    go_wp2
    go_ret
    exact ⟨rfl, rfl⟩
  · rw [decide_eq_true ⟨h, h2⟩]
    go_enter Try.func24, Try.ntmps24
    go_wp2
    go_ret
    exact ⟨rfl, rfl⟩
  · rw [decide_eq_false (fun e => h2 e.2)]
    go_enter Try.func24, Try.ntmps24
    go_wp2
    go_ret
    exact ⟨rfl, rfl⟩

set_option maxHeartbeats 1000000 in
theorem rlook_p {g : Nat} {v : Value} {lost : Int} {P : Nat → Prop} {L : List Fl} (w : World) (hb : RG w g v lost) (hL : Rfs w P v L) (k : Int) {x : Fl} {e0 : Int} (h : lookF L k = (x, e0)) :
    Calls Try.prog 22 #[.pointer (some ⟨g, 0, none⟩), .int .i64 k] w fun e w' => e = .returned (.tuple #[.agg #[.int .i64 x.f, .int .i64 x.t, .string x.s, .bool x.h], .int .i64 e0]) ∧ Only (fun _ => False) w w' := by
  have HO : Hid (Only (fun _ => False) w (w.alloc (.cells #[.int .i64 0, .int .i64 0, .string ⟨#[]⟩, .bool false] 30))) := Lib.hid ((Only.refl _ w).alloc _)
  have HB := Lib.hid (HO.out.blk hb (fun h => h))
  have HL := Lib.hid (hL.only HO.out (fun _ _ h => h))
  have HI := Lib.hid (ris_p _ HB.out HL.out k)
  obtain ⟨A, c, rfl, hnc⟩ := hL.form
  have HE := Lib.hid h
  obtain ⟨n, hn⟩ : ∃ n, n = L.length := ⟨_, rfl⟩
  rw [← hn] at HB HI
  have hc0 : (w.alloc (.cells #[.int .i64 0, .int .i64 0, .string ⟨#[]⟩, .bool false] 30)).cell? ⟨g, 0, none⟩ = some (.slice A n c) := cell_at HB.out 0 rfl
  have HN := Lib.hid hn
  clear hb hL hn h
  by_cases hk : 0 ≤ k ∧ k < (n : Int)
  · rw [decide_eq_true hk] at HI
    obtain ⟨hk0, hkn2⟩ := hk
    obtain ⟨k, rfl⟩ := Int.eq_ofNat_of_zero_le hk0
    have hkn' : ¬ (n : Int) ≤ k := by omega
    have hkn : k < n := by omega
    obtain ⟨y, hy⟩ : ∃ x, L[k]? = some x := ⟨L[k]'(by have := HN.out; omega), List.getElem?_eq_getElem _⟩
    have he := HE.out
    unfold lookF at he
    rw [if_neg (by omega), Int.toNat_natCast, hy] at he
    injection he with e1 e2
    subst e1 e2
    have hLn := HL.out
    unfold Rfs at hLn
    rw [← HN.out] at hLn
    obtain ⟨q, o, c', hv, _⟩ := hLn.some_ (by omega)
    injection hv with e1 e2 e3
    subst e1 e3
    clear e2
    have hd0 : (w.alloc (.cells #[.int .i64 0, .int .i64 0, .string ⟨#[]⟩, .bool false] 30)).cell? ⟨q, o + k * 4, none⟩ = some (.int .i64 y.f) := hLn.cell (k * 4) (encF_at L k 0 _ hy (by omega))
    have hd1 : (w.alloc (.cells #[.int .i64 0, .int .i64 0, .string ⟨#[]⟩, .bool false] 30)).cell? ⟨q, o + k * 4 + 1, none⟩ = some (.int .i64 y.t) := hLn.cell (k * 4 + 1) (encF_at L k 1 _ hy (by omega))
    have hd2 : (w.alloc (.cells #[.int .i64 0, .int .i64 0, .string ⟨#[]⟩, .bool false] 30)).cell? ⟨q, o + k * 4 + 2, none⟩ = some (.string y.s) := hLn.cell (k * 4 + 2) (encF_at L k 2 _ hy (by omega))
    have hd3 : (w.alloc (.cells #[.int .i64 0, .int .i64 0, .string ⟨#[]⟩, .bool false] 30)).cell? ⟨q, o + k * 4 + 3, none⟩ = some (.bool y.h) := hLn.cell (k * 4 + 3) (encF_at L k 3 _ hy (by omega))
    clear hy hLn
    go_enter Try.func22, Try.ntmps22
    go_wp2_with (go_at_call 24; refine HI.out.mono ?_; rintro e w1 ⟨rfl, rfl⟩)
    (try simp only [Exit.inBlock, Exit.then])
    exact bodyPost_ret (results_cell2 rfl _ _ w.heap.size 30 _ (0, 0) _ rfl (heap_alloc_new w _) Try.underlying30 rfl (by kernel_rfl)) rfl ⟨rfl, (Only.refl _ w).alloc _⟩
  · rw [decide_eq_false hk] at HI
    have he : (x, e0) = (fl0, 7) := by
      rw [← HE.out]
      unfold lookF
      by_cases hk2 : k < 0
      · rw [if_pos hk2]
      · rw [if_neg hk2, List.getElem?_eq_none (by have := HN.out; omega)]
    injection he with e1 e2
    subst e1 e2
    clear hk
    go_enter Try.func22, Try.ntmps22
    go_wp2_with (go_at_call 24; refine HI.out.mono ?_; rintro e w1 ⟨rfl, rfl⟩)
    (try simp only [Exit.inBlock, Exit.then])
    exact bodyPost_ret (results_cell2 rfl _ _ w.heap.size 30 _ (0, 0) _ rfl (heap_alloc_new w _) Try.underlying30 rfl (by kernel_rfl)) rfl ⟨rfl, (Only.refl _ w).alloc _⟩

theorem rtwice_no {g : Nat} {v : Value} {lost : Int} {P : Nat → Prop} {L : List Fl} (w : World) (hb : RG w g v lost) (hL : Rfs w P v L) (k : Int) {x : Fl} (h : lookF L k = (x, 7)) :
    Calls Try.prog 20 #[.pointer (some ⟨g, 0, none⟩), .int .i64 k] w fun e w' => e = .returned (.int .i64 7) ∧ Only (fun _ => False) w w' := by
  have HLK := Lib.hid (rlook_p w hb hL k h)
  clear hb hL h
  go_enter Try.func20, Try.ntmps20
  go_wp2_with (go_at_call 22; refine HLK.out.mono ?_; rintro e w1 ⟨rfl, ho⟩; have HO := Lib.hid ho; clear ho)
  go_ret
  exact ⟨rfl, HO.out.alloc _⟩

theorem rtwice_full {g : Nat} {v : Value} {lost : Int} {P : Nat → Prop} {L : List Fl} (w : World) (hb : RG w g v lost) (hL : Rfs w P v L) (hl : 256 ≤ L.length) (hlo : 0 ≤ lost ∧ lost ≤ 100000) (k : Int) {x : Fl} (h : lookF L k = (x, 0)) :
    Calls Try.prog 20 #[.pointer (some ⟨g, 0, none⟩), .int .i64 k] w fun e w' => e = .returned (.int .i64 6) ∧ RG w' g v (lost + 1) ∧ Only (fun k => k = g) w w' := by
  have HLK := Lib.hid (rlook_p w hb hL k h)
  have HS : Hid (∀ w1, Only (fun _ => False) w w1 → Calls Try.prog 18 #[.pointer (some ⟨g, 0, none⟩), .agg #[.int .i64 x.f, .int .i64 x.t, .string x.s, .bool x.h]] w1 fun e w' => e = .returned (.int .i64 6) ∧ RG w' g v (lost + 1) ∧ Only (fun k => k = g) w1 w') := Lib.hid (fun w1 ho => rsend_full w1 (ho.blk hb (fun h => h)) (Row.only hL ho (fun _ _ h => h)) hl hlo x)
  clear hb hL h hl hlo
  go_enter Try.func20, Try.ntmps20
  go_wp2_with (first | (go_at_call 22; refine HLK.out.mono ?_; rintro e w1 ⟨rfl, ho⟩; have HO := Lib.hid ho; clear ho) | (go_at_call 18; refine (HS.out _ (HO.out.alloc _)).mono ?_; rintro e w2 ⟨rfl, h2, o2⟩; have H2 := Lib.hid h2; have HO2 := Lib.hid (((HO.out.alloc (.cells #[.int .i64 x.f, .int .i64 x.t, .string x.s, .bool x.h] 30)).mono (S2 := fun k => k = g) (fun _ h => h.elim)).trans o2); clear h2 o2))
  go_ret
  exact ⟨rfl, H2.out, HO2.out⟩

theorem rtwice_ok {g : Nat} {v : Value} {lost : Int} {P : Nat → Prop} {L : List Fl} (w : World) (hb : RG w g v lost) (hL : Rfs w P v L) (hl : L.length < 256) (hP : ∀ k, w.heap.size ≤ k → P k) (k : Int) {x : Fl} (h : lookF L k = (x, 0)) :
    Calls Try.prog 20 #[.pointer (some ⟨g, 0, none⟩), .int .i64 k] w fun e w' => e = .returned (.int .i64 0) ∧ ∃ v', RG w' g v' lost ∧ Rfs w' P v' (L ++ [x]) ∧ Only (fun k => k = g ∨ v.ownBlock = some k) w w' := by
  have HLK := Lib.hid (rlook_p w hb hL k h)
  have HS : Hid (∀ w1, Only (fun _ => False) w w1 → Calls Try.prog 18 #[.pointer (some ⟨g, 0, none⟩), .agg #[.int .i64 x.f, .int .i64 x.t, .string x.s, .bool x.h]] w1 fun e w' => e = .returned (.int .i64 0) ∧ ∃ v', RG w' g v' lost ∧ Rfs w' P v' (L ++ [x]) ∧ Only (fun k => k = g ∨ v.ownBlock = some k) w1 w') := Lib.hid (fun w1 ho => rsend_ok w1 (ho.blk hb (fun h => h)) (Row.only hL ho (fun _ _ h => h)) hl (fun q hq => hP q (by have := ho.size; omega)) x)
  clear hb hL h hl hP
  go_enter Try.func20, Try.ntmps20
  go_wp2_with (first | (go_at_call 22; refine HLK.out.mono ?_; rintro e w1 ⟨rfl, ho⟩; have HO := Lib.hid ho; clear ho) | (go_at_call 18; refine (HS.out _ (HO.out.alloc _)).mono ?_; rintro e w2 ⟨rfl, v2, h2, i2, o2⟩; have H2 := Lib.hid h2; have I2 := Lib.hid i2; have HO2 := Lib.hid (((HO.out.alloc (.cells #[.int .i64 x.f, .int .i64 x.t, .string x.s, .bool x.h] 30)).mono (S2 := fun k => k = g ∨ v.ownBlock = some k) (fun _ h => h.elim)).trans o2); clear h2 i2 o2))
  go_ret
  exact ⟨rfl, v2, H2.out, I2.out, HO2.out⟩


end Go.Proofs.Ythgkcjcmliaanaa.Bg

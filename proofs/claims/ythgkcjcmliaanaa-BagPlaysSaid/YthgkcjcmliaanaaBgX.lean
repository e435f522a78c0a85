/- The contract of the reference's Hurt, where a flight is spoilt. -/
import Derived.Test.YthgkcjcmliaanaaBgV
set_option linter.unusedVariables false
set_option linter.unusedSimpArgs false
namespace Go.Proofs.Ythgkcjcmliaanaa.Bg
open Go.RowKit Go.Proofs.Ythgkcjcmliaanaa.Base Go.Proofs.Ythgkcjcmliaanaa.Rws Go.Proofs.YthgkcjcmliaanaaW.PrintWords Go.Proofs.YthgkcjcmliaanaaW.PrintMore
attribute [local go_sem] max2_mx min2_mn max_two min_two max_three min_three max_four min_four

/-- A whole flight is put into its place. -/
theorem row_put {w : World} {P : Nat → Prop} {n g o c : Nat} {L : List Fl} (h : Row 4 30 w P (.slice (some ⟨g, o, none⟩) n c) n (L.flatMap encF)) (k : Nat) {x : Fl} (y : Fl) (hx : L[k]? = some x) :
    Row 4 30 (w.setCells g (o + k * 4) [.int .i64 y.f, .int .i64 y.t, .string y.s, .bool y.h]) P (.slice (some ⟨g, o, none⟩) n c) n ((L.set k y).flatMap encF) := by
  have h1 := row_set h (k * 4) (.int .i64 y.f)
  have h2 := row_set h1 (k * 4 + 1) (.int .i64 y.t)
  have h3 := row_set h2 (k * 4 + 2) (.string y.s)
  have h4 := row_set h3 (k * 4 + 3) (.bool y.h)
  rw [encF_put L k x y hx] at h4
  exact h4

theorem row_there {w : World} {P : Nat → Prop} {n g o c : Nat} {L : List Fl} (h : Row 4 30 w P (.slice (some ⟨g, o, none⟩) n c) n (L.flatMap encF)) (k : Nat) {x : Fl} (hx : L[k]? = some x) : w.there g (o + k * 4) 4 := by
  intro j hj
  have h1 := h.cell (k * 4 + j) (u := (encF x).getD j undef) (by rw [encF_at L k j x hx hj, List.getD_eq_getElem?_getD, List.getElem?_eq_getElem (by simpa [encF] using hj)]; rfl)
  have h2 := h.frozen (k * 4 + j)
  rw [Nat.add_assoc, h1]
  exact ⟨rfl, h2⟩

theorem only_setCells {S : Nat → Prop} {w w1 : World} (h : Only S w w1) {g : Nat} (hg : S g ∨ w.heap.size ≤ g) (o : Nat) (a b c d : Value) : Only S w (w1.setCells g o [a, b, c, d]) :=
  (((h.setCell (p := ⟨g, o, none⟩) hg a).setCell (p := ⟨g, o + 1, none⟩) hg b).setCell (p := ⟨g, o + 1 + 1, none⟩) hg c).setCell (p := ⟨g, o + 1 + 1 + 1, none⟩) hg d

set_option maxHeartbeats 4000000 in
theorem rhurt_ok {g : Nat} {v : Value} {lost : Int} {P : Nat → Prop} {L : List Fl} (w : World) (hb : RG w g v lost) (hL : Rfs w P v L) (hl : L.length ≤ 1000) (k at' : Nat) (b : Int) {xf xt : Int} {xs : ByteArray} (h : L[k]? = some ⟨xf, xt, xs, false⟩) (ha : at' < xs.size) (hb1 : 1 ≤ b ∧ b ≤ 255) (hsz : xs.size ≤ 100000) :
    Calls Try.prog 21 #[.pointer (some ⟨g, 0, none⟩), .int .i64 (k : Int), .int .i64 (at' : Int), .int .i64 b] w fun e w' => e = .returned (.int .i64 0) ∧ ∃ v', RG w' g v' lost ∧ Rfs w' (fun q => w.heap.size ≤ q) v' (L.set k ⟨xf, xt, chgB xs at' b, true⟩) ∧ Only (fun k => k = g) w w' := by
  obtain ⟨n, hn⟩ : ∃ n, n = L.length := ⟨_, rfl⟩
  have hkl := (List.getElem?_eq_some_iff.1 h).1
  have hkn : k < n := by omega
  have hgw : g < w.heap.size := blk_lt hb
  obtain ⟨q, o, c, rfl, hnc⟩ := Row.some_ hL (by omega)
  have hlk : lookF L (k : Int) = (⟨xf, xt, xs, false⟩, 0) := by unfold lookF; rw [if_neg (by omega), Int.toNat_natCast, h]
  have HLK := Lib.hid (rlook_p w hb hL k hlk)
  rw [← hn] at hb
  have hL' : Row 4 30 w P (.slice (some ⟨q, o, none⟩) n c) n (L.flatMap encF) := by unfold Rfs at hL; rw [← hn] at hL; exact hL
  have HB := Lib.hid hb
  have HL := Lib.hid hL'
  have HX := Lib.hid h
  have HN := Lib.hid hn
  obtain ⟨hb2, hb3⟩ := hb1
  have hat1 : ¬ (xs.size : Int) ≤ at' := by omega
  have hat2 : (at' : Int) < xs.size := by omega
  have hat3 : ¬ b < 1 := by omega
  have hat4 : ¬ 255 < b := by omega
  have hwb : IntKind.u8.wrap b = b := by simp [IntKind.wrap, IntKind.bits, IntKind.signed]; omega
  have hkn1 : (k : Int) < n := by omega
  have HCH : Hid (∀ w0, Calls Try.prog 23 #[.string xs, .int .i64 (at' : Int), .int .u8 b] w0 fun e w' => e = .returned (.string (chgB xs at' b)) ∧ Only (fun _ => False) w0 w') := Lib.hid (fun w0 => changed_p xs at' b hsz w0)
  have hn1 : n ≤ 1000 := by omega
  generalize chgB xs at' b = s' at *
  clear hb hL hL' hl hlk hn hkl h hnc
  go_enter Try.func21, Try.ntmps21
  go_wp2_with fail
  refine HLK.out.mono ?_
  rintro e w1 ⟨rfl, ho⟩
  have HO2 : Hid (Only (fun _ => False) w (w1.alloc (.cells #[.int .i64 xf, .int .i64 xt, .string xs, .bool false] 30))) := Lib.hid (ho.alloc _)
  have HK2 := Lib.hid (heap_alloc_new w1 (.cells #[.int .i64 xf, .int .i64 xt, .string xs, .bool false] 30))
  have hq1 := ho.size
  clear ho
  have hy2 : (w1.alloc (.cells #[.int .i64 xf, .int .i64 xt, .string xs, .bool false] 30)).cell? ⟨w1.heap.size, 2, none⟩ = some (.string xs) := cell_at HK2.out 2 rfl
  have hy3 : (w1.alloc (.cells #[.int .i64 xf, .int .i64 xt, .string xs, .bool false] 30)).cell? ⟨w1.heap.size, 3, none⟩ = some (.bool false) := cell_at HK2.out 3 rfl
  go_wp2_with fail
  generalize w1.alloc (.cells #[.int .i64 xf, .int .i64 xt, .string xs, .bool false] 30) = w2 at *
  generalize w1.heap.size = p at *
  refine (HCH.out _).mono ?_
  rintro e w3 ⟨rfl, o3⟩
  have HO3 := Lib.hid (HO2.out.trans o3)
  have hk3 := o3.blk HK2.out (fun h => h)
  clear o3 hy2 hy3
  have hz2 : w3.cell? ⟨p, 2, none⟩ = some (.string xs) := cell_at hk3 2 rfl
  have hz2f : w3.frozen? ⟨p, 2, none⟩ = false := blk_frozen hk3 2
  have hk4 : (w3.setCell ⟨p, 2, none⟩ (.string s')).heap[p]? = some (.cells #[.int .i64 xf, .int .i64 xt, .string s', .bool false] 30 (0, 0)) := blk_set hk3 2 _
  have hz3 : (w3.setCell ⟨p, 2, none⟩ (.string s')).cell? ⟨p, 3, none⟩ = some (.bool false) := cell_at hk4 3 rfl
  have hz3f : (w3.setCell ⟨p, 2, none⟩ (.string s')).frozen? ⟨p, 3, none⟩ = false := blk_frozen hk4 3
  have HK5 : Hid (((w3.setCell ⟨p, 2, none⟩ (.string s')).setCell ⟨p, 3, none⟩ (.bool true)).heap[p]? = some (.cells #[.int .i64 xf, .int .i64 xt, .string s', .bool true] 30 (0, 0))) := Lib.hid (blk_set hk4 3 _)
  have HO5 : Hid (Only (fun _ => False) w ((w3.setCell ⟨p, 2, none⟩ (.string s')).setCell ⟨p, 3, none⟩ (.bool true))) := Lib.hid ((HO3.out.setCell (.inr hq1) _).setCell (.inr hq1) _)
  have HB5 := Lib.hid (HO5.out.blk HB.out (fun h => h))
  have HL5 := Lib.hid (Row.only HL.out HO5.out (fun _ _ h => h))
  have hc0 : ((w3.setCell ⟨p, 2, none⟩ (.string s')).setCell ⟨p, 3, none⟩ (.bool true)).cell? ⟨g, 0, none⟩ = some (.slice (some ⟨q, o, none⟩) n c) := cell_at HB5.out 0 rfl
  have hL5 : Rfs ((w3.setCell ⟨p, 2, none⟩ (.string s')).setCell ⟨p, 3, none⟩ (.bool true)) P (.slice (some ⟨q, o, none⟩) n c) L := by unfold Rfs; rw [← HN.out]; exact HL5.out
  obtain ⟨v6, w6, hr6, hR6, ho6⟩ := Rfs.apps (P := fun z => ((w3.setCell ⟨p, 2, none⟩ (.string s')).setCell ⟨p, 3, none⟩ (.bool true)).heap.size ≤ z) (v := .slice none 0 0) (L := []) (Row.nil 4 30 _ _) HN.out hL5 (fun z hz => hz) (by have := HN.out; simp; omega) 40
  rw [List.nil_append] at hR6
  unfold Rfs at hR6
  rw [← HN.out] at hR6
  obtain ⟨r, o6, c6, rfl, _⟩ := hR6.some_ (by omega)
  have hpr : p < r := by have h1 := (Row.own hR6 (k := r) (by simp [Value.ownBlock])).1; have h2 := blk_lt HK5.out; omega
  have HRR := Lib.hid hr6
  have HR6 := Lib.hid hR6
  have HO6 : Hid (Only (fun _ => False) w w6) := Lib.hid (HO5.out.then_ ho6 (fun z hz => by simp [Value.ownBlock] at hz))
  have HK6 := Lib.hid (ho6.blk HK5.out (by simp [Value.ownBlock]))
  have HB6 := Lib.hid (HO6.out.blk HB.out (fun h => h))
  have hb0 : w6.cell? ⟨p, 0, none⟩ = some (.int .i64 xf) := cell_at HK6.out 0 rfl
  have hb1 : w6.cell? ⟨p, 1, none⟩ = some (.int .i64 xt) := cell_at HK6.out 1 rfl
  have hb2 : w6.cell? ⟨p, 2, none⟩ = some (.string s') := cell_at HK6.out 2 rfl
  have hb3 : w6.cell? ⟨p, 3, none⟩ = some (.bool true) := cell_at HK6.out 3 rfl
  have HT6 := Lib.hid (row_there hR6 k HX.out)
  have hwr : w.heap.size ≤ r := by omega
  have hO7 : Only (fun k => k = g) w (w6.setCells r (o6 + k * 4) [.int .i64 xf, .int .i64 xt, .string s', .bool true]) := (only_setCells HO6.out (.inr hwr) _ _ _ _ _).mono (fun _ h => h.elim)
  have HB7 := Lib.hid ((only_setCells HO6.out (.inr hwr) (o6 + k * 4) (.int .i64 xf) (.int .i64 xt) (.string s') (.bool true)).blk HB.out (fun h => h))
  have HR7 := Lib.hid (row_put hR6 k ⟨xf, xt, s', true⟩ HX.out)
  simp only at HR7
  have HO7 := Lib.hid hO7
  clear hr6 hR6 ho6 hO7 hL5 hk3 hk4
  have hc7 : (w6.setCells r (o6 + k * 4) [.int .i64 xf, .int .i64 xt, .string s', .bool true]).cell? ⟨g, 0, none⟩ = some (.slice (some ⟨q, o, none⟩) n c) := cell_at HB7.out 0 rfl
  have hf7 : (w6.setCells r (o6 + k * 4) [.int .i64 xf, .int .i64 xt, .string s', .bool true]).frozen? ⟨g, 0, none⟩ = false := blk_frozen HB7.out 0
  go_wp2_with (first | ((with_reducible refine gate_builtin (b := .append) (xs := #[.tmp 48, .tmp 52]) rfl ?_); at_builtin; (refine Go.Lib.wpList_append_run_sl _ rfl (.tmp 48) (.tmp 52) 40 rfl _ _ rfl rfl HRR.out ?_)) | ((with_reducible refine gate_store (ty := 30) (x := .tmp 57) (y := .tmp 56) rfl ?_); go_loud (refine wpList_store_mid rfl 30 (.tmp 57) (.tmp 56) rfl r (o6 + k * 4) #[.int .i64 xf, .int .i64 xt, .string s', .bool true] rfl rfl HT6.out (by kernel_rfl) (by simp [Value.oneCell']) ?_)))
  go_ret
  refine ⟨rfl, _, blk_set HB7.out 0 _, ?_, HO7.out.setCell (.inl rfl) _⟩
  have h8 := Row.only HR7.out ((Only.refl (fun k => k = g) (w6.setCells r (o6 + k * 4) [.int .i64 xf, .int .i64 xt, .string s', .bool true])).setCell (p := ⟨g, 0, none⟩) (.inl rfl) (.slice (some ⟨r, o6, none⟩) n c6)) (fun z hz e => Row.ne HR7.out HB7.out (by decide) (by rw [hz, e]))
  unfold Rfs
  rw [List.length_set, ← HN.out]
  exact h8.to (fun z hz => by simp [Value.ownBlock] at hz; omega)

end Go.Proofs.Ythgkcjcmliaanaa.Bg

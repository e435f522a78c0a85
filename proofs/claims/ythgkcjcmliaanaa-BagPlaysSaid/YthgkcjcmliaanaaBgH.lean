/- The contract of bag's Hurt. -/
import Derived.Test.YthgkcjcmliaanaaBgW
import Derived.Laws.IdiomStrings
import Derived.Laws.BytesArg
set_option linter.unusedVariables false
set_option linter.unusedSimpArgs false
namespace Go.Proofs.Ythgkcjcmliaanaa.Bg
open Go.RowKit Go.Proofs.Ythgkcjcmliaanaa.Base Go.Proofs.Ythgkcjcmliaanaa.Rws Go.Proofs.YthgkcjcmliaanaaW.PrintWords Go.Proofs.YthgkcjcmliaanaaW.PrintMore
attribute [local go_sem] max2_mx min2_mn max_two min_two max_three min_three max_four min_four

/-- A text's bytes as numbers. -/
def nums (s : ByteArray) : List Int := s.data.toList.map fun b => (b.toNat : Int)
/-- A text, one byte of which is changed. -/
def chgL (s : ByteArray) (i : Nat) (x : Int) : List Int := (nums s).set i (bits .xor .u8 ((nums s).getD i 0) x)
def chgB (s : ByteArray) (i : Nat) (x : Int) : ByteArray := strOfNums (chgL s i x)

theorem nums_len (s : ByteArray) : (nums s).length = s.size := by unfold nums; rw [List.length_map, Array.length_toList]; rfl
theorem chgL_len (s : ByteArray) (i : Nat) (x : Int) : (chgL s i x).length = s.size := by simp [chgL, nums_len]

/-- '[]byte(s)': a row of the text's bytes, new. -/
theorem bytes_of (w : World) (s : ByteArray) : ∃ (R cap : Nat) (W : World), (convert 9 51 (.string s)).run Try.prog w = .ok (.slice (some ⟨R, 0, none⟩) s.size cap) W ∧ (∀ j, j < s.size → W.cell? ⟨R, j, none⟩ = some (.int .u8 ((nums s).getD j 0))) ∧ (∀ j, j < s.size → W.frozen? ⟨R, j, none⟩ = false) ∧ Only (fun _ => False) w W ∧ w.heap.size ≤ R := by
  refine ⟨_, _, _, run_bytes_of_string (P := Try.prog) w 9 51 5 s Try.underlying9 Try.underlying51 Try.underlying5, fun j hj => ?_, fun j hj => ?_, ((Only.refl _ w).drew).alloc _, Nat.le_refl _⟩
  · have h := World.cell?_alloc_mark w.drew (bytesRow s (grownCap w s.size 0 5)) 5 ((bytesRow s (grownCap w s.size 0 5)).size, (bytesRow s (grownCap w s.size 0 5)).size + 1) j
    rw [show w.drew.heap.size = w.heap.size from rfl] at h
    rw [h]
    unfold bytesRow
    have hj' : j < s.data.size := hj
    rw [Array.getElem?_append_left (by simpa using hj')]
    have hn : (nums s)[j]? = some ((s.data[j].toNat : Int)) := by
      unfold nums
      rw [List.getElem?_map, Array.getElem?_toList, Array.getElem?_eq_getElem hj']
      rfl
    rw [List.getD_eq_getElem?_getD, hn, Array.getElem?_map, Array.getElem?_eq_getElem hj']
    rfl
  · have h := World.frozen?_alloc_mark w.drew (bytesRow s (grownCap w s.size 0 5)) 5 (bytesRow s (grownCap w s.size 0 5)).size ((bytesRow s (grownCap w s.size 0 5)).size + 1) j
    rw [show w.drew.heap.size = w.heap.size from rfl] at h
    rw [h]
    have : ¬ (bytesRow s (grownCap w s.size 0 5)).size ≤ j := by
      unfold bytesRow
      have hj' : j < s.data.size := hj
      simp
      omega
    simp [this]

theorem row_set {sz : Nat} {e : TypeId} {w : World} {P : Nat → Prop} {n g o c : Nat} {xs : List Value} (h : Row sz e w P (.slice (some ⟨g, o, none⟩) n c) n xs) (j : Nat) (u : Value) : Row sz e (w.setCell ⟨g, o + j, none⟩ u) P (.slice (some ⟨g, o, none⟩) n c) n (xs.set j u) := by
  rcases h with ⟨h, _⟩ | ⟨g', o', c', cells, hv, hg, hh, h1, h2, h3, h4⟩
  · cases h
  · injection hv with e1 e2 e3
    injection e1 with e1
    injection e1 with e4 e5
    subst e3 e4 e5
    refine .inr ⟨g, o, c, cells.setIfInBounds (o + j) u, rfl, hg, blk_set hh _ _, h1, by rw [Array.size_setIfInBounds]; exact h2, by rw [List.length_set]; exact h3, fun i y hy => ?_⟩
    rw [List.getElem?_set] at hy
    rw [Array.getElem?_setIfInBounds]
    by_cases hij : j = i
    · subst hij
      rw [if_pos rfl] at hy ⊢
      split at hy
      · rename_i hlt
        have := h4 j _ (List.getElem?_eq_getElem hlt)
        have hb := (Array.getElem?_eq_some_iff.1 this).1
        rw [if_pos hb]
        exact hy
      · cases hy
    · rw [if_neg hij] at hy
      rw [if_neg (by omega)]
      exact h4 i y hy

theorem encF_set : ∀ (L : List Fl) (k : Nat) (x : Fl) (s : ByteArray), L[k]? = some x → ((L.flatMap encF).set (k * 4 + 2) (.string s)).set (k * 4 + 3) (.bool true) = (L.set k ⟨x.f, x.t, s, true⟩).flatMap encF
  | [], k, x, s, h => by simp at h
  | y :: L, 0, x, s, h => by
    simp at h
    subst h
    simp [encF]
  | y :: L, k + 1, x, s, h => by
    have ih := encF_set L k x s (by simpa using h)
    rw [List.flatMap_cons, List.set_append_right _ _ (by simp [encF]; omega), List.set_append_right _ _ (by simp [encF]; omega), List.set_cons_succ, List.flatMap_cons, ← ih]
    congr 1
    congr 2
    · simp [encF]; omega
    · simp [encF]; omega

/-- What a hurt answers where there is a flight. -/
def hurtE (x : Fl) (a b : Int) : Int := if x.h then 8 else if a < 0 ∨ (x.s.size : Int) ≤ a ∨ b < 1 ∨ 255 < b then 2 else 0

set_option maxHeartbeats 1000000 in
/-- Nothing is spoilt. -/
theorem hurt_no {g : Nat} {v : Value} {lost : Int} {P : Nat → Prop} {L : List Fl} (w : World) (hb : BG w g v lost) (hL : Fls w P v L) (k a b : Int) {x : Fl} {e0 : Int} (h : lookF L k = (x, e0)) (he : e0 = 7 ∨ e0 = 0 ∧ hurtE x a b ≠ 0) (hsz : x.s.size ≤ 100000) :
    Calls Try.prog 11 #[.pointer (some ⟨g, 0, none⟩), .int .i64 k, .int .i64 a, .int .i64 b] w fun e w' => e = .returned (.int .i64 (if e0 = 0 then hurtE x a b else e0)) ∧ Only (fun _ => False) w w' := by
  have HLK := Lib.hid (look_is w hb hL k h)
  have hsz' : (x.s.size : Int) ≤ 100000 := by omega
  clear hb hL h
  rcases he with rfl | ⟨rfl, he⟩
  · rw [if_neg (by decide)]
    go_enter Try.func11, Try.ntmps11
    go_wp2_with (go_at_call 13; refine HLK.out.mono ?_; rintro e w1 ⟨rfl, ho⟩; have HO := Lib.hid ho; clear ho)
    go_ret
    exact ⟨rfl, HO.out.alloc _⟩
  · rw [if_pos rfl]
    obtain ⟨xf, xt, xs, xh⟩ := x
    unfold hurtE at he ⊢
    simp only at he hsz' HLK ⊢
    cases xh
    · simp only [Bool.false_eq_true, if_false] at he ⊢
      by_cases hc : a < 0 ∨ (xs.size : Int) ≤ a ∨ b < 1 ∨ 255 < b
      · rw [if_pos hc]
        clear he
        have hcs : a < 0 ∨ (¬ a < 0 ∧ (xs.size : Int) ≤ a) ∨ (¬ a < 0 ∧ ¬ (xs.size : Int) ≤ a ∧ b < 1) ∨ (¬ a < 0 ∧ ¬ (xs.size : Int) ≤ a ∧ ¬ b < 1 ∧ 255 < b) := by omega
        clear hc
        rcases hcs with h1 | ⟨h1, h2⟩ | ⟨h1, h2, h3⟩ | ⟨h1, h2, h3, h4⟩
        all_goals
          go_enter Try.func11, Try.ntmps11
          go_wp2_with (go_at_call 13; refine HLK.out.mono ?_; rintro e w1 ⟨rfl, ho⟩; have HO := Lib.hid ho; clear ho)
          go_ret
          exact ⟨rfl, HO.out.alloc _⟩
      · rw [if_neg hc] at he
        exact absurd rfl he
    · simp only [if_true] at he ⊢
      go_enter Try.func11, Try.ntmps11
      go_wp2_with (go_at_call 13; refine HLK.out.mono ?_; rintro e w1 ⟨rfl, ho⟩; have HO := Lib.hid ho; clear ho)
      go_ret
      exact ⟨rfl, HO.out.alloc _⟩

set_option maxHeartbeats 4000000 in
/-- A flight is spoilt. -/
theorem hurt_ok {g : Nat} {v : Value} {lost : Int} {P : Nat → Prop} {L : List Fl} (w : World) (hb : BG w g v lost) (hL : Fls w P v L) (hl : L.length ≤ 1000) (k at' : Nat) (b : Int) {xf xt : Int} {xs : ByteArray} (h : L[k]? = some ⟨xf, xt, xs, false⟩) (ha : at' < xs.size) (hb1 : 1 ≤ b ∧ b ≤ 255) (hsz : xs.size ≤ 100000) :
    Calls Try.prog 11 #[.pointer (some ⟨g, 0, none⟩), .int .i64 (k : Int), .int .i64 (at' : Int), .int .i64 b] w fun e w' => e = .returned (.int .i64 0) ∧ BG w' g v lost ∧ Fls w' P v (L.set k ⟨xf, xt, chgB xs at' b, true⟩) ∧ Only (fun k => v.ownBlock = some k) w w' := by
  obtain ⟨n, hn⟩ : ∃ n, n = L.length := ⟨_, rfl⟩
  have hkl := (List.getElem?_eq_some_iff.1 h).1
  have hkn : k < n := by omega
  obtain ⟨q, o, c, rfl, hnc⟩ := Row.some_ hL (by omega)
  have hlk : lookF L (k : Int) = (⟨xf, xt, xs, false⟩, 0) := by unfold lookF; rw [if_neg (by omega), Int.toNat_natCast, h]
  have HLK := Lib.hid (look_is w hb hL k hlk)
  rw [← hn] at hb
  have hL' : Row 4 29 w P (.slice (some ⟨q, o, none⟩) n c) n (L.flatMap encF) := by unfold Fls at hL; rw [← hn] at hL; exact hL
  have HB := Lib.hid hb
  have HL := Lib.hid hL'
  have HX := Lib.hid h
  have HN := Lib.hid hn
  have hqg : q ≠ g := fun e => Row.ne hL' hb (by decide) (by simp [Value.ownBlock, e])
  obtain ⟨hb2, hb3⟩ := hb1
  have hat1 : ¬ (xs.size : Int) ≤ at' := by omega
  have hat2 : (at' : Int) < xs.size := by omega
  have hat3 : ¬ b < 1 := by omega
  have hat4 : ¬ 255 < b := by omega
  have hwb : IntKind.u8.wrap b = b := by simp [IntKind.wrap, IntKind.bits, IntKind.signed]; omega
  have hkn1 : (k : Int) < n := by omega
  clear hb hL hL' hl hlk hn hkl h hnc
  go_enter Try.func11, Try.ntmps11
  go_wp2_with fail
  refine HLK.out.mono ?_
  rintro e w1 ⟨rfl, ho⟩
  have HO2 : Hid (Only (fun _ => False) w (w1.alloc (.cells #[.int .i64 xf, .int .i64 xt, .string xs, .bool false] 29))) := Lib.hid (ho.alloc _)
  have HK2 := Lib.hid (heap_alloc_new w1 (.cells #[.int .i64 xf, .int .i64 xt, .string xs, .bool false] 29))
  clear ho
  have hy2 : (w1.alloc (.cells #[.int .i64 xf, .int .i64 xt, .string xs, .bool false] 29)).cell? ⟨w1.heap.size, 2, none⟩ = some (.string xs) := cell_at HK2.out 2 rfl
  have hy3 : (w1.alloc (.cells #[.int .i64 xf, .int .i64 xt, .string xs, .bool false] 29)).cell? ⟨w1.heap.size, 3, none⟩ = some (.bool false) := cell_at HK2.out 3 rfl
  obtain ⟨R, cap, W4, hcv, hRc, hRf, hRO, hR1⟩ := bytes_of (w1.alloc (.cells #[.int .i64 xf, .int .i64 xt, .string xs, .bool false] 29)) xs
  have HO4 : Hid (Only (fun _ => False) w W4) := Lib.hid (HO2.out.trans hRO)
  have hwR : w.heap.size ≤ R := by have := HO2.out.size; omega
  have hra : W4.cell? ⟨R, at', none⟩ = some (.int .u8 ((nums xs).getD at' 0)) := hRc at' ha
  have hrf : W4.frozen? ⟨R, at', none⟩ = false := hRf at' ha
  have HRC := Lib.hid hRc
  clear hRc hRf hRO
  obtain ⟨z, hz⟩ : ∃ z, z = (nums xs).getD at' 0 := ⟨_, rfl⟩
  rw [← hz] at hra
  have HZ := Lib.hid hz
  have hO5 : Only (fun k => k = R) W4 (W4.setCell ⟨R, at', none⟩ (.int .u8 (bits .xor .u8 z b))) := (Only.refl (fun k => k = R) W4).setCell (p := ⟨R, at', none⟩) (.inl rfl) _
  have HO5 : Hid (Only (fun _ => False) w (W4.setCell ⟨R, at', none⟩ (.int .u8 (bits .xor .u8 z b)))) := Lib.hid (HO4.out.then_ hO5 (fun i hi => .inr (by omega)))
  have HCB : Hid (∀ W : World, (∀ i, i < xs.size → W.cell? ⟨R, i, none⟩ = some (.int .u8 ((chgL xs at' b).getD i 0))) → (convert 51 9 (.slice (some ⟨R, 0, none⟩) xs.size cap)).run Try.prog W = .ok (.string (chgB xs at' b)) W) := Lib.hid (fun W hW => run_convert_bytes_arg W 51 5 Try.underlying51 Try.underlying5 R 0 xs.size cap (chgL xs at' b) (chgL_len _ _ _) (fun i hi => by rw [Nat.zero_add]; exact hW i hi) 9 Try.underlying9)
  have HR5 : Hid (∀ i, i < xs.size → (W4.setCell ⟨R, at', none⟩ (.int .u8 (bits .xor .u8 z b))).cell? ⟨R, i, none⟩ = some (.int .u8 ((chgL xs at' b).getD i 0))) := Lib.hid (fun i hi => by
    by_cases hi2 : i = at'
    · subst hi2
      rw [World.cell?_setCell_same' W4 ⟨R, i, none⟩ _ (by rw [hra]; rfl)]
      unfold chgL
      rw [List.getD_eq_getElem?_getD, List.getElem?_set, if_pos rfl, if_pos (by rw [nums_len]; exact hi), ← HZ.out]
      rfl
    · rw [World.cell?_setCell_other W4 ⟨R, at', none⟩ ⟨R, i, none⟩ _ (fun e => hi2 (by injection e with _ e; exact e.symm))]
      unfold chgL
      rw [List.getD_eq_getElem?_getD, List.getElem?_set, if_neg (fun e => hi2 e.symm), ← List.getD_eq_getElem?_getD]
      exact HRC.out i hi)
  have HB5 := Lib.hid (HO5.out.blk HB.out (fun h => h))
  have HL5 := Lib.hid (Row.only HL.out HO5.out (fun _ _ h => h))
  clear hz hO5
  go_wp2
  generalize W4.setCell ⟨R, at', none⟩ (.int .u8 (bits .xor .u8 z b)) = W5 at *
  have hx0 : W5.cell? ⟨g, 0, none⟩ = some (.slice (some ⟨q, o, none⟩) n c) := cell_at HB5.out 0 rfl
  have hs2 : W5.cell? ⟨q, o + k * 4 + 2, none⟩ = some (.string xs) := HL5.out.cell (k * 4 + 2) (encF_at L k 2 _ HX.out (by omega))
  have hs2f : W5.frozen? ⟨q, o + k * 4 + 2, none⟩ = false := HL5.out.frozen (k * 4 + 2)
  have HL6 : Hid (Row 4 29 (W5.setCell ⟨q, o + k * 4 + 2, none⟩ (.string (chgB xs at' b))) P (.slice (some ⟨q, o, none⟩) n c) n ((L.flatMap encF).set (k * 4 + 2) (.string (chgB xs at' b)))) := Lib.hid (row_set HL5.out (k * 4 + 2) _)
  have hs3 : (W5.setCell ⟨q, o + k * 4 + 2, none⟩ (.string (chgB xs at' b))).cell? ⟨q, o + k * 4 + 3, none⟩ = some (.bool false) := HL6.out.cell (k * 4 + 3) (by rw [List.getElem?_set, if_neg (by omega)]; exact encF_at L k 3 _ HX.out (by omega))
  have hs3f : (W5.setCell ⟨q, o + k * 4 + 2, none⟩ (.string (chgB xs at' b))).frozen? ⟨q, o + k * 4 + 3, none⟩ = false := HL6.out.frozen (k * 4 + 3)
  have HL7 : Hid (Row 4 29 ((W5.setCell ⟨q, o + k * 4 + 2, none⟩ (.string (chgB xs at' b))).setCell ⟨q, o + k * 4 + 3, none⟩ (.bool true)) P (.slice (some ⟨q, o, none⟩) n c) n ((L.set k ⟨xf, xt, chgB xs at' b, true⟩).flatMap encF)) := Lib.hid (by
    have := row_set HL6.out (k * 4 + 3) (.bool true)
    rwa [encF_set L k _ _ HX.out] at this)
  have HB7 : Hid (BG ((W5.setCell ⟨q, o + k * 4 + 2, none⟩ (.string (chgB xs at' b))).setCell ⟨q, o + k * 4 + 3, none⟩ (.bool true)) g (.slice (some ⟨q, o, none⟩) n c) lost) := Lib.hid ((((Only.refl (fun i => i = q) W5).setCell (p := ⟨q, o + k * 4 + 2, none⟩) (.inl rfl) _).setCell (p := ⟨q, o + k * 4 + 3, none⟩) (.inl rfl) _).blk HB5.out (fun e => hqg e.symm))
  have HO7 : Hid (Only (fun i => (Value.slice (some ⟨q, o, none⟩) n c).ownBlock = some i) w ((W5.setCell ⟨q, o + k * 4 + 2, none⟩ (.string (chgB xs at' b))).setCell ⟨q, o + k * 4 + 3, none⟩ (.bool true))) := Lib.hid ((((HO5.out.mono (fun _ h => h.elim)).setCell (.inl (by simp [Value.ownBlock])) _).setCell (.inl (by simp [Value.ownBlock])) _))
  have hqw : q < w.heap.size := (Row.own HL.out (k := q) (by simp [Value.ownBlock])).2
  have hc5 := HCB.out W5.drew HR5.out
  have hR6 : ∀ i, i < xs.size → (W5.drew.setCell ⟨q, o + k * 4 + 2, none⟩ (.string (chgB xs at' b))).cell? ⟨R, i, none⟩ = some (.int .u8 ((chgL xs at' b).getD i 0)) := fun i hi => (World.cell?_setCell_far _ _ _ _ (by show q ≠ R; omega)).trans (HR5.out i hi)
  have hc6 := HCB.out _ hR6
  have hc7 := HCB.out ((W5.drew.setCell ⟨q, o + k * 4 + 2, none⟩ (.string (chgB xs at' b))).setCell ⟨q, o + k * 4 + 3, none⟩ (.bool true)) (fun i hi => (World.cell?_setCell_far _ _ _ _ (by show q ≠ R; omega)).trans (hR6 i hi))
  clear hR6
  generalize hs' : chgB xs at' b = s' at *
  have HSS := Lib.hid hs'
  clear hcv hs'
  have hx6 : (W5.drew.setCell ⟨q, o + k * 4 + 2, none⟩ (.string s')).cell? ⟨g, 0, none⟩ = some (.slice (some ⟨q, o, none⟩) n c) := cell_at (((Only.refl (fun i => i = q) W5).setCell (p := ⟨q, o + k * 4 + 2, none⟩) (.inl rfl) _).blk HB5.out (fun e => hqg e.symm)) 0 rfl
  have hx7 : ((W5.drew.setCell ⟨q, o + k * 4 + 2, none⟩ (.string s')).setCell ⟨q, o + k * 4 + 3, none⟩ (.bool true)).cell? ⟨g, 0, none⟩ = some (.slice (some ⟨q, o, none⟩) n c) := cell_at HB7.out 0 rfl
  go_region_held3 (fun w' => w'.cell? ⟨g, 0, none⟩ = some (.slice (some ⟨q, o, none⟩) n c) ∧ (convert 51 9 (.slice (some ⟨R, 0, none⟩) xs.size cap)).run Try.prog w' = .ok (.string s') w') (first | exact ⟨hx0, hc5⟩ | exact ⟨hx6, hc6⟩ | exact ⟨hx7, hc7⟩) (fail)
  go_wp2
  go_ret
  rw [HSS.out]
  refine ⟨rfl, ?_, ?_, ?_⟩
  · rw [← HN.out]
    exact HB7.out
  · unfold Fls
    rw [List.length_set, ← HN.out]
    exact HL7.out
  · rw [← HN.out]
    exact HO7.out.drew

end Go.Proofs.Ythgkcjcmliaanaa.Bg

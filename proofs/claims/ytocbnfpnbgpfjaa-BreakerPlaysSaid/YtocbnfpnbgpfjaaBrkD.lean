/- The contracts of breaker's failed and Done. -/
import Derived.Test.YtocbnfpnbgpfjaaBrkL
import Derived.Lib.SlFresh
set_option linter.unusedVariables false
set_option linter.unusedSimpArgs false
namespace Go.Proofs.Ytocbnfpnbgpfjaa.Brk
open Go.RowKit Go.Proofs.Ytocbnfpnbgpfjaa.Base Go.Proofs.YtocbnfpnbgpfjaaW.PrintWords Go.Proofs.YtocbnfpnbgpfjaaW.PrintMore
attribute [local go_sem] max2_mx min2_mn max_two min_two max_three min_three max_four min_four

/-- How many are not good. -/
def bads : List Bool → Int
  | [] => 0
  | b :: l => (if b then 0 else 1) + bads l

theorem bads_snoc (l : List Bool) (b : Bool) : bads (l ++ [b]) = bads l + (if b then 0 else 1) := by
  induction l with
  | nil => simp [bads]
  | cons x l ih => simp only [List.cons_append, bads, ih]; omega

theorem bads_le (l : List Bool) : 0 ≤ bads l ∧ bads l ≤ l.length := by
  induction l with
  | nil => simp [bads]
  | cons x l ih => simp only [bads, List.length_cons]; cases x <;> simp <;> omega

theorem bads_take (l : List Bool) (i : Nat) (b : Bool) (h : l[i]? = some b) : bads (l.take (i + 1)) = bads (l.take i) + (if b then 0 else 1) := by
  rw [List.take_add_one, h]
  exact bads_snoc _ _

set_option maxHeartbeats 1000000 in
theorem failed_p (g : Nat) (s f r p st now un : Int) (v : Value) (l : List Bool) (out good : Int) (w : World) (base : Nat → Prop) (hb : B46 w g s f r p st now un v out good) (hL : LastB w base v l) (hl : l.length ≤ 1000) :
    Calls Try.prog 23 #[.pointer (some ⟨g, 0, none⟩)] w fun e w' => e = .returned (.int .i64 (bads l)) ∧ w = w' := by
  have hc7 : w.cell? ⟨g, 7, none⟩ = some v := cell_at hb 7 rfl
  clear hb
  rcases hL with ⟨rfl, rfl⟩ | ⟨q, o, c, cells, rfl, hq, hh, h1, h2, h3⟩
  · go_enter Try.func23, Try.ntmps23
    go_wp2
    go_loopw [3, 11] (fun vn vi wr => vn = .int .i64 0 ∧ vi = .int .i64 0 ∧ w = wr) (fun _ vi _ => 0)
    case atStart => exact ⟨rfl, rfl, rfl⟩
    case round =>
      obtain ⟨rfl, rfl, rfl⟩ := hrel
      go_wp2
      go_ret
      exact ⟨rfl, rfl⟩
  · have HH := Lib.hid hh
    have H3 := Lib.hid h3
    have HL := Lib.hid h1
    have HK := Lib.hid hl
    obtain ⟨n, hn⟩ : ∃ n, n = l.length := ⟨_, rfl⟩
    have HN := Lib.hid hn
    rw [← hn] at hl hc7
    clear hh h3 h1 hq h2 hn
    go_enter Try.func23, Try.ntmps23
    go_wp2
    go_loopw [3, 5, 11] (fun vn v5 vi wr => ∃ i : Nat, vn = .int .i64 (bads (l.take i)) ∧ vi = .int .i64 (i : Int) ∧ i ≤ n ∧ w = wr) (fun _ _ vi _ => n - (intOf vi).toNat)
    case atStart => exact ⟨0, rfl, rfl, by omega, rfl⟩
    case round =>
      obtain ⟨i, rfl, rfl, hi, rfl⟩ := hrel
      have hgo : i < n ∨ i = n := by omega
      rcases hgo with hlt | rfl
      · have hlt' : (i : Int) < n := by omega
        obtain ⟨b, hb⟩ : ∃ b, l[i]? = some b := ⟨l[i]'(by have := HN.out; omega), List.getElem?_eq_getElem _⟩
        have hc : w.cell? ⟨q, o + i, none⟩ = some (.bool b) := cell_at HH.out (o + i) (H3.out i b hb)
        have HT := Lib.hid (bads_take l i b hb)
        have hbd := bads_le (l.take i)
        have hbl : (l.take i).length ≤ i := by rw [List.length_take]; omega
        have hb0 : 0 ≤ bads (l.take i) ∧ bads (l.take i) ≤ 1000 := by omega
        generalize bads (l.take i) = m at *
        obtain ⟨hb1, hb2⟩ := hb0
        clear hb hbd hbl
        cases b
        · go_wp2
          go_roundw
          case rel => exact ⟨i + 1, by rw [HT.out]; simp only [Bool.false_eq_true, if_false], by go_num, by omega, by trivial⟩
          case measure => simp [intOf]; omega
        · go_wp2
          go_roundw
          case rel => exact ⟨i + 1, by rw [HT.out]; simp, by go_num, by omega, by trivial⟩
          case measure => simp [intOf]; omega
      · have HE : Hid (bads (l.take i) = bads l) := Lib.hid (by rw [HN.out, List.take_length])
        rw [HE.out]
        go_wp2
        go_ret
        exact ⟨rfl, rfl⟩

/-- What a result is put to: the last so many. -/
def lastOf (s : Int) (l : List Bool) (b : Bool) : List Bool := (l ++ [b]).drop (mx ((l.length : Int) + 1 - s) 0).toNat

theorem own_ne {w : World} {base : Nat → Prop} {g : Nat} {v : Value} {l : List Bool} {cs : Array Value} (hL : LastB w base v l) (hg : w.heap[g]? = some (.cells cs 46 (0, 0))) : v.ownBlock ≠ some g := by
  rcases hL with ⟨rfl, rfl⟩ | ⟨q, o, c, cells, rfl, hq, hh, h1, h2, h3⟩
  · simp [Value.ownBlock]
  · intro e
    simp [Value.ownBlock] at e
    subst e
    rw [hg] at hh
    simp at hh

theorem LastB.only {w w' : World} {base : Nat → Prop} {g : Nat} {v : Value} {l : List Bool} (h : LastB w base v l) (hn : v.ownBlock ≠ some g) (k : Only (fun i => i = g) w w') : LastB w' base v l :=
  h.keep (fun q hq hlt => k.block q hlt (fun e => hn (by rw [hq, e])))

theorem LastB.form {w : World} {base : Nat → Prop} {v : Value} {l : List Bool} (h : LastB w base v l) (hl : 0 < l.length) : ∃ q o c, v = .slice (some ⟨q, o, none⟩) l.length c ∧ l.length ≤ c := by
  rcases h with ⟨rfl, rfl⟩ | ⟨q, o, c, cells, rfl, _, _, h1, _, _⟩
  · simp at hl
  · exact ⟨q, o, c, rfl, h1⟩

/-- A row of which the first k are cut away. -/
theorem LastB.cut {w : World} {base : Nat → Prop} {q o c : Nat} {l : List Bool} (h : LastB w base (.slice (some ⟨q, o, none⟩) l.length c) l) (k : Nat) (hk : k ≤ l.length) : LastB w base (.slice (some ⟨q, o + k, none⟩) (l.length - k) (c - k)) (l.drop k) := by
  rcases h with ⟨h, _⟩ | ⟨q', o', c', cells, hv, hg, hh, h1, h2, h3⟩
  · cases h
  · injection hv with e1 e2 e3
    injection e1 with e1
    injection e1 with e4 e5
    subst e3 e4 e5
    refine .inr ⟨q, o + k, c - k, cells, by rw [List.length_drop], hg, hh, by rw [List.length_drop]; omega, by omega, fun i b hb => ?_⟩
    rw [List.getElem?_drop] at hb
    have := h3 (k + i) b hb
    rw [Nat.add_assoc]
    exact this

/-- What Done leaves of a closed breaker: closed with one result more, or open. -/
def Dn (g : Nat) (s f r p now un : Int) (l : List Bool) (out good : Int) (base : Nat → Prop) (S : Nat → Prop) (w : World) (e : Ending) (w' : World) : Prop :=
  e = .returned (.int .i64 0) ∧ Only S w w' ∧ ((bads l < f ∧ ∃ v, B46 w' g s f r p 0 now un v out good ∧ LastB w' base v l) ∨ (f ≤ bads l ∧ B46 w' g s f r p 1 now (ad now r) (.slice none 0 0) 0 0))

set_option maxHeartbeats 2000000 in
theorem done_0 (g : Nat) (s f r p now un : Int) (v : Value) (l : List Bool) (out good t : Int) (b : Bool) (w : World) (base : Nat → Prop) (hb : B46 w g s f r p 0 now un v out good) (hL : LastB w base v l) (hs : 1 ≤ s ∧ s ≤ 64) (hl : (l.length : Int) ≤ s) (hbase : ∀ k, w.heap.size ≤ k → base k) :
    Calls Try.prog 13 #[.pointer (some ⟨g, 0, none⟩), .int .i64 t, .bool b] w (Dn g s f r p (mx now (cl t)) un (lastOf s l b) out good base (fun k => k = g ∨ v.ownBlock = some k) w) := by
  have HB := Lib.hid hb
  have HL := Lib.hid hL
  have HLL := Lib.hid hl
  obtain ⟨hs1, hs2⟩ := hs
  have hne := own_ne hL hb
  have HNE := Lib.hid hne
  obtain ⟨n, hn⟩ : ∃ n, n = (l ++ [b]).length := ⟨_, rfl⟩
  have hn2 : n = l.length + 1 := by rw [hn]; simp
  have HN := Lib.hid hn
  have HN2 := Lib.hid hn2
  have hns1 : (n : Int) ≤ s + 1 := by omega
  have hn0 : 1 ≤ n := by omega
  clear hb hL hl hne hn hn2
  go_enter Try.func13, Try.ntmps13
  go_wp2_with (first | (go_at_call 18; refine (none_p _ _ _ _ _ _ _ _ _ _ _ _ HB.out hs1).mono ?_; rintro e w' ⟨rfl, rfl⟩) | (go_at_call 19; refine (at_p _ _ _ _ _ _ _ _ _ _ _ _ _ HB.out).mono ?_; rintro e w1 ⟨rfl, hb1, ho1⟩; have HB1 := Lib.hid hb1; have HO1 := Lib.hid ho1; have HL1 := Lib.hid (HL.out.only HNE.out ho1); have hc4 : w1.cell? ⟨g, 4, none⟩ = some (.int .i64 0) := cell_at hb1 4 rfl; have hc7 : w1.cell? ⟨g, 7, none⟩ = some v := cell_at hb1 7 rfl; clear hb1 ho1) | ((with_reducible refine gate_builtin (b := .append) (xs := #[.tmp 22, .tmp 24]) rfl ?_); at_builtin; obtain ⟨v2, w2, hr2, hL2, hO2⟩ := app_any HL1.out (fun k hk => hbase k (by have := HO1.out.size; omega)) (by have := HLL.out; omega) b 36; refine Go.Lib.wpList_append_run_sl _ rfl (.tmp 22) (.tmp 24) 36 rfl v _ rfl rfl hr2 ?_; obtain ⟨q, o, c, ev, hnc⟩ := hL2.form (by simp); rw [← HN.out] at ev hnc; subst ev; have hnc' := hnc; have HL2 := Lib.hid hL2; have hb2 := hO2.blk HB1.out HNE.out; have hd7 : w2.cell? ⟨g, 7, none⟩ = some v := cell_at hb2 7 rfl; have hf7 : w2.frozen? ⟨g, 7, none⟩ = false := blk_frozen hb2 7; have hb3 := blk_set hb2 7 (.slice (some ⟨q, o, none⟩) n c); have HL3 := Lib.hid (hL2.only (own_ne hL2 hb2) ((Only.refl (fun i => i = g) w2).setCell (p := ⟨g, 7, none⟩) (.inl rfl) (.slice (some ⟨q, o, none⟩) n c))); have HB3 : Hid (B46 (w2.setCell ⟨g, 7, none⟩ (.slice (some ⟨q, o, none⟩) n c)) g s f r p 0 (mx now (cl t)) un (.slice (some ⟨q, o, none⟩) n c) out good) := Lib.hid hb3; have HO3 : Hid (Only (fun k => k = g ∨ v.ownBlock = some k) w (w2.setCell ⟨g, 7, none⟩ (.slice (some ⟨q, o, none⟩) n c))) := Lib.hid ((((HO1.out.mono (fun _ h => .inl h)).trans (hO2.mono (fun _ h => .inr h))).setCell (.inl (.inl rfl)) _)); clear hr2 hL2 hO2 hb2 hb3))
  generalize w2.setCell ⟨g, 7, none⟩ (.slice (some ⟨q, o, none⟩) n c) = w3 at *
  have he7 : w3.cell? ⟨g, 7, none⟩ = some (.slice (some ⟨q, o, none⟩) n c) := cell_at HB3.out 7 rfl
  have hf7' : w3.frozen? ⟨g, 7, none⟩ = false := blk_frozen HB3.out 7
  have he0 : w3.cell? ⟨g, 0, none⟩ = some (.int .i64 s) := cell_at HB3.out 0 rfl
  obtain ⟨k, hk⟩ : ∃ k, mx ((n : Int) - s) 0 = k := ⟨_, rfl⟩
  have hk2 : 0 ≤ k ∧ k < n ∧ k ≤ 1 := by rcases mx_cases ((n : Int) - s) 0 with h | h <;> omega
  obtain ⟨hk0, hk1, hk3⟩ := hk2
  obtain ⟨k, rfl⟩ := Int.eq_ofNat_of_zero_le hk0
  have hkn : k ≤ n := by omega
  have hw : wrap64 ((n : Int) - s) = (n : Int) - s := by unfold wrap64; omega
  have hw' : IntKind.i64.wrap ((n : Int) - s) = (n : Int) - s := (wrap_i64 _).trans hw
  have HK := Lib.hid hk
  have hkc : k ≤ c := by omega
  have hck : ¬ c = k := by omega
  have HLO : Hid (lastOf s l b = (l ++ [b]).drop k) := Lib.hid (by
    unfold lastOf
    have h1 : ((l.length : Int) + 1) = n := by have := HN2.out; omega
    rw [h1, HK.out, Int.toNat_natCast])
  clear hc7 hd7 hf7 hc4
  go_still_tail 19, (by kernel_rfl)
  repeat still_step
  change wpList _ _ _ _ _ w3.drew
  have HB5 : Hid (B46 ((w3.setCell ⟨g, 7, none⟩ (.slice (some ⟨q, o + k, none⟩) (n - k) (c - k))).drew) g s f r p 0 (mx now (cl t)) un (.slice (some ⟨q, o + k, none⟩) (n - k) (c - k)) out good) := Lib.hid (blk_set HB3.out 7 _)
  have HL4 : Hid (LastB w3 base (.slice (some ⟨q, o + k, none⟩) (n - k) (c - k)) (lastOf s l b)) := Lib.hid (by
    have h1 := HL3.out
    rw [HLO.out]
    rw [HN.out] at h1 ⊢
    exact h1.cut k (by rw [← HN.out]; exact hkn))
  have HL5 : Hid (LastB ((w3.setCell ⟨g, 7, none⟩ (.slice (some ⟨q, o + k, none⟩) (n - k) (c - k))).drew) base (.slice (some ⟨q, o + k, none⟩) (n - k) (c - k)) (lastOf s l b)) := Lib.hid (HL4.out.only (own_ne HL4.out HB3.out) ((Only.refl (fun i => i = g) w3).setCell (.inl rfl) _).drew)
  have HO5 : Hid (Only (fun k => k = g ∨ v.ownBlock = some k) w ((w3.setCell ⟨g, 7, none⟩ (.slice (some ⟨q, o + k, none⟩) (n - k) (c - k))).drew)) := Lib.hid (HO3.out.setCell (.inl (.inl rfl)) _).drew
  have HLE : Hid ((lastOf s l b).length ≤ 1000) := Lib.hid (by unfold lastOf; rw [List.length_drop]; have := HN2.out; have := HN.out; omega)
  go_wp2
  generalize (w3.setCell ⟨g, 7, none⟩ (.slice (some ⟨q, o + k, none⟩) (n - k) (c - k))).drew = w5 at *
  have he1 : w5.cell? ⟨g, 1, none⟩ = some (.int .i64 f) := cell_at HB5.out 1 rfl
  have HF := Lib.hid (fun m => failed_p g s f r p 0 _ un _ _ out good (w5.drewN m) base HB5.out HL5.out HLE.out)
  clear he7 hf7' he0
  obtain ⟨d, hd⟩ : ∃ d, d = bads (lastOf s l b) := ⟨_, rfl⟩
  rw [← hd] at HF
  have HD := Lib.hid hd
  clear hd
  go_quiet ((go_at_call 23; exact Calls.quiet_of_same ((HF.out _).mono fun _ _ h => ⟨h.1, h.2.symm⟩)))
  have HBq : Hid (B46 (w5.drewN nq) g s f r p 0 (mx now (cl t)) un (.slice (some ⟨q, o + k, none⟩) (n - k) (c - k)) out good) := Lib.hid HB5.out
  have HLq : Hid (LastB (w5.drewN nq) base (.slice (some ⟨q, o + k, none⟩) (n - k) (c - k)) (lastOf s l b)) := Lib.hid HL5.out
  have HOq : Hid (Only (fun k => k = g ∨ v.ownBlock = some k) w (w5.drewN nq)) := Lib.hid (HO5.out.drewN _)
  generalize w5.drewN nq = wq at *
  rcases (by omega : d < f ∨ f ≤ d) with hlt | hge
  · have hge : ¬ f ≤ d := by omega
    go_wp2
    go_ret
    exact ⟨rfl, HOq.out, .inl ⟨by rw [← HD.out]; exact hlt, _, HBq.out, HLq.out⟩⟩
  · go_wp2_with (go_at_call 24; refine (open_p _ _ _ _ _ _ _ _ _ _ _ _ HBq.out).mono ?_; rintro e w6 ⟨rfl, hb6, ho6⟩; have HB6 := Lib.hid hb6; have HO6 := Lib.hid ho6; clear hb6 ho6)
    go_ret
    exact ⟨rfl, HOq.out.trans (HO6.out.mono (fun _ h => .inl h)), .inr ⟨by rw [← HD.out]; exact hge, HB6.out⟩⟩

/-- Open: nothing. -/
theorem done_1 (g : Nat) (s f r p now un : Int) (v : Value) (out good t : Int) (b : Bool) (w : World) (hb : B46 w g s f r p 1 now un v out good) (hs : 1 ≤ s) :
    Calls Try.prog 13 #[.pointer (some ⟨g, 0, none⟩), .int .i64 t, .bool b] w fun e w' => e = .returned (.int .i64 0) ∧ B46 w' g s f r p 1 (mx now (cl t)) un v out good ∧ Only (fun k => k = g) w w' := by
  have HB := Lib.hid hb
  clear hb
  go_enter Try.func13, Try.ntmps13
  go_wp2_with (first | (go_at_call 18; refine (none_p _ _ _ _ _ _ _ _ _ _ _ _ HB.out hs).mono ?_; rintro e w' ⟨rfl, rfl⟩) | (go_at_call 19; refine (at_p _ _ _ _ _ _ _ _ _ _ _ _ _ HB.out).mono ?_; rintro e w1 ⟨rfl, hb1, ho1⟩; have HB1 := Lib.hid hb1; have HO1 := Lib.hid ho1; have hc4 : w1.cell? ⟨g, 4, none⟩ = some (.int .i64 1) := cell_at hb1 4 rfl; clear hb1 ho1))
  go_ret
  exact ⟨rfl, HB1.out, HO1.out⟩

/-- Half open, and not good: open again. -/
theorem done_2bad (g : Nat) (s f r p now un : Int) (v : Value) (out good t : Int) (w : World) (hb : B46 w g s f r p 2 now un v out good) (hs : 1 ≤ s) :
    Calls Try.prog 13 #[.pointer (some ⟨g, 0, none⟩), .int .i64 t, .bool false] w fun e w' => e = .returned (.int .i64 0) ∧ B46 w' g s f r p 1 (mx now (cl t)) (ad (mx now (cl t)) r) (.slice none 0 0) 0 0 ∧ Only (fun k => k = g) w w' := by
  have HB := Lib.hid hb
  clear hb
  go_enter Try.func13, Try.ntmps13
  go_wp2_with (first | (go_at_call 18; refine (none_p _ _ _ _ _ _ _ _ _ _ _ _ HB.out hs).mono ?_; rintro e w' ⟨rfl, rfl⟩) | (go_at_call 19; refine (at_p _ _ _ _ _ _ _ _ _ _ _ _ _ HB.out).mono ?_; rintro e w1 ⟨rfl, hb1, ho1⟩; have HB1 := Lib.hid hb1; have HO1 := Lib.hid ho1; have hc4 : w1.cell? ⟨g, 4, none⟩ = some (.int .i64 2) := cell_at hb1 4 rfl; clear hb1 ho1) | (go_at_call 24; refine (open_p _ _ _ _ _ _ _ _ _ _ _ _ HB1.out).mono ?_; rintro e w6 ⟨rfl, hb6, ho6⟩; have HB6 := Lib.hid hb6; have HO6 := Lib.hid ho6; clear hb6 ho6))
  go_ret
  exact ⟨rfl, HB6.out, HO1.out.trans HO6.out⟩

set_option maxHeartbeats 1000000 in
/-- Half open, and good: one more, or closed. -/
theorem done_2good (g : Nat) (s f r p now un : Int) (v : Value) (out good t : Int) (w : World) (hb : B46 w g s f r p 2 now un v out good) (hs : 1 ≤ s) (hg : 0 ≤ good ∧ good ≤ 16) :
    Calls Try.prog 13 #[.pointer (some ⟨g, 0, none⟩), .int .i64 t, .bool true] w fun e w' => e = .returned (.int .i64 0) ∧ Only (fun k => k = g) w w' ∧ (if p ≤ good + 1 then B46 w' g s f r p 0 (mx now (cl t)) un (.slice none 0 0) 0 0 else B46 w' g s f r p 2 (mx now (cl t)) un v out (good + 1)) := by
  have HB := Lib.hid hb
  obtain ⟨hg1, hg2⟩ := hg
  have hw : wrap64 (good + 1) = good + 1 := by unfold wrap64; omega
  clear hb
  go_enter Try.func13, Try.ntmps13
  go_wp2_with (first | (go_at_call 18; refine (none_p _ _ _ _ _ _ _ _ _ _ _ _ HB.out hs).mono ?_; rintro e w' ⟨rfl, rfl⟩) | (go_at_call 19; refine (at_p _ _ _ _ _ _ _ _ _ _ _ _ _ HB.out).mono ?_; rintro e w1 ⟨rfl, hb1, ho1⟩; have HB1 := Lib.hid hb1; have HO1 := Lib.hid ho1; have hc4 : w1.cell? ⟨g, 4, none⟩ = some (.int .i64 2) := cell_at hb1 4 rfl; have hc9 : w1.cell? ⟨g, 9, none⟩ = some (.int .i64 good) := cell_at hb1 9 rfl; have hf9 : w1.frozen? ⟨g, 9, none⟩ = false := blk_frozen hb1 9; clear hb1 ho1))
  have HB2 : Hid (B46 (w1.setCell ⟨g, 9, none⟩ (.int .i64 (good + 1))) g s f r p 2 (mx now (cl t)) un v out (good + 1)) := Lib.hid (blk_set HB1.out 9 _)
  have HO2 : Hid (Only (fun k => k = g) w (w1.setCell ⟨g, 9, none⟩ (.int .i64 (good + 1)))) := Lib.hid (HO1.out.setCell (.inl rfl) _)
  generalize w1.setCell ⟨g, 9, none⟩ (.int .i64 (good + 1)) = w2 at *
  have hd9 : w2.cell? ⟨g, 9, none⟩ = some (.int .i64 (good + 1)) := cell_at HB2.out 9 rfl
  have hd3 : w2.cell? ⟨g, 3, none⟩ = some (.int .i64 p) := cell_at HB2.out 3 rfl
  clear hc4 hc9 hf9
  go_quiet (fail)
  have HBq : Hid (B46 (w2.drewN nq) g s f r p 2 (mx now (cl t)) un v out (good + 1)) := Lib.hid HB2.out
  have HOq : Hid (Only (fun k => k = g) w (w2.drewN nq)) := Lib.hid (HO2.out.drewN _)
  generalize w2.drewN nq = wq at *
  by_cases hp : p ≤ good + 1
  · go_wp2_with (go_at_call 20; refine (become_p _ _ _ _ _ _ _ _ _ _ _ 0 _ HBq.out).mono ?_; rintro e w6 ⟨rfl, hb6, ho6⟩; have HB6 := Lib.hid hb6; have HO6 := Lib.hid ho6; clear hb6 ho6)
    go_ret
    refine ⟨rfl, HOq.out.trans HO6.out, ?_⟩
    exact HB6.out
  · go_wp2
    go_ret
    refine ⟨rfl, HOq.out, ?_⟩
    exact HBq.out

end Go.Proofs.Ytocbnfpnbgpfjaa.Brk

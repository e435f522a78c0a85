/- The reference's Done. -/
import Derived.Test.YtocbnfpnbgpfjaaBrkF
set_option linter.unusedVariables false
set_option linter.unusedSimpArgs false
namespace Go.Proofs.Ytocbnfpnbgpfjaa.Brk
open Go.RowKit Go.Proofs.Ytocbnfpnbgpfjaa.Base Go.Proofs.YtocbnfpnbgpfjaaW.PrintWords Go.Proofs.YtocbnfpnbgpfjaaW.PrintMore
attribute [local go_sem] max2_mx min2_mn max_two min_two max_three min_three max_four min_four

section
variable (g : Nat) (s f r p now un : Int) (v : Value) (out good t : Int) (w : World)

theorem done_r_1 (b : Bool) (hb : B38 w g s f r p 1 now un v out good) :
    Calls Try.prog 12 #[.pointer (some ⟨g, 0, none⟩), .int .i64 t, .bool b] w fun e w' => e = .returned (.tuple #[]) ∧ B38 w' g s f r p 1 (mx now (cl t)) un v out good ∧ Only (fun i => i = g) w w' := by
  have HB := Lib.hid hb
  clear hb
  go_enter Try.func12, Try.ntmps12
  go_wp2_with (go_at_call 21; refine (on_r _ _ _ _ _ _ _ _ _ _ _ t _ HB.out).mono ?_; rintro e w1 ⟨rfl, hb1, ho1⟩; have HB1 := Lib.hid hb1; have HO1 := Lib.hid ho1; have hc4 : w1.cell? ⟨g, 4, none⟩ = some (.int .i64 1) := cell_at hb1 4 rfl; clear hb1 ho1)
  (try simp only [Exit.inBlock, Exit.then])
  refine bodyPost_ret (results_none rfl _ _ _) rfl ?_
  exact ⟨rfl, HB1.out, HO1.out⟩

theorem done_r_2bad (hb : B38 w g s f r p 2 now un v out good) :
    Calls Try.prog 12 #[.pointer (some ⟨g, 0, none⟩), .int .i64 t, .bool false] w fun e w' => e = .returned (.tuple #[]) ∧ B38 w' g s f r p 1 (mx now (cl t)) (ad (mx now (cl t)) r) (.slice none 0 0) out good ∧ Only (fun i => i = g) w w' := by
  have HB := Lib.hid hb
  clear hb
  go_enter Try.func12, Try.ntmps12
  go_wp2_with (first | (go_at_call 21; refine (on_r _ _ _ _ _ _ _ _ _ _ _ t _ HB.out).mono ?_; rintro e w1 ⟨rfl, hb1, ho1⟩; have HB1 := Lib.hid hb1; have HO1 := Lib.hid ho1; have hc4 : w1.cell? ⟨g, 4, none⟩ = some (.int .i64 2) := cell_at hb1 4 rfl; clear hb1 ho1) | (go_at_call 22; refine (opens_r _ _ _ _ _ _ _ _ _ _ _ _ HB1.out).mono ?_; rintro e w2 ⟨rfl, hb2, ho2⟩; have HB2 := Lib.hid hb2; have HO2 := Lib.hid (HO1.out.trans ho2); clear hb2 ho2))
  (try simp only [Exit.inBlock, Exit.then])
  refine bodyPost_ret (results_none rfl _ _ _) rfl ?_
  exact ⟨rfl, HB2.out, HO2.out⟩

set_option maxHeartbeats 1000000 in
theorem done_r_2good (hb : B38 w g s f r p 2 now un v out good) (hw : wrap64 (good + 1) = good + 1) :
    Calls Try.prog 12 #[.pointer (some ⟨g, 0, none⟩), .int .i64 t, .bool true] w fun e w' => e = .returned (.tuple #[]) ∧ Only (fun i => i = g) w w' ∧ (good + 1 = p ∧ B38 w' g s f r p 0 (mx now (cl t)) un (.slice none 0 0) out (good + 1) ∨ good + 1 ≠ p ∧ B38 w' g s f r p 2 (mx now (cl t)) un v out (good + 1)) := by
  have HB := Lib.hid hb
  clear hb
  go_enter Try.func12, Try.ntmps12
  go_wp2_with (go_at_call 21; refine (on_r _ _ _ _ _ _ _ _ _ _ _ t _ HB.out).mono ?_; rintro e w1 ⟨rfl, hb1, ho1⟩; have HB1 := Lib.hid hb1; have HO1 := Lib.hid ho1; have hc4 : w1.cell? ⟨g, 4, none⟩ = some (.int .i64 2) := cell_at hb1 4 rfl; have hc9 : w1.cell? ⟨g, 9, none⟩ = some (.int .i64 good) := cell_at hb1 9 rfl; have hf9 : w1.frozen? ⟨g, 9, none⟩ = false := blk_frozen hb1 9; clear hb1 ho1)
  have HB2 : Hid (B38 (w1.setCell ⟨g, 9, none⟩ (.int .i64 (good + 1))) g s f r p 2 (mx now (cl t)) un v out (good + 1)) := Lib.hid (blk_set HB1.out 9 _)
  have HO2 : Hid (Only (fun k => k = g) w (w1.setCell ⟨g, 9, none⟩ (.int .i64 (good + 1)))) := Lib.hid (HO1.out.setCell (.inl rfl) _)
  generalize w1.setCell ⟨g, 9, none⟩ (.int .i64 (good + 1)) = w2 at *
  have hd9 : w2.cell? ⟨g, 9, none⟩ = some (.int .i64 (good + 1)) := cell_at HB2.out 9 rfl
  have hd3 : w2.cell? ⟨g, 3, none⟩ = some (.int .i64 p) := cell_at HB2.out 3 rfl
  clear hc4 hc9 hf9
  go_quiet (fail)
  have HBq : Hid (B38 (w2.drewN nq) g s f r p 2 (mx now (cl t)) un v out (good + 1)) := Lib.hid HB2.out
  have HOq : Hid (Only (fun k => k = g) w (w2.drewN nq)) := Lib.hid (HO2.out.drewN _)
  generalize w2.drewN nq = wq at *
  by_cases hp : good + 1 = p
  · have f4 : wq.frozen? ⟨g, 4, none⟩ = false := blk_frozen HBq.out 4
    have c4 : wq.cell? ⟨g, 4, none⟩ = some (.int .i64 2) := cell_at HBq.out 4 rfl
    have b1 := blk_set HBq.out 4 (.int .i64 0)
    have c7 : (wq.setCell ⟨g, 4, none⟩ (.int .i64 0)).cell? ⟨g, 7, none⟩ = some v := cell_at b1 7 rfl
    have f7 : (wq.setCell ⟨g, 4, none⟩ (.int .i64 0)).frozen? ⟨g, 7, none⟩ = false := blk_frozen b1 7
    have HB3 : Hid (B38 ((wq.setCell ⟨g, 4, none⟩ (.int .i64 0)).setCell ⟨g, 7, none⟩ (.slice none 0 0)) g s f r p 0 (mx now (cl t)) un (.slice none 0 0) out (good + 1)) := Lib.hid (blk_set b1 7 _)
    clear b1
    have HP := Lib.hid hp
    go_wp2
    (try simp only [Exit.inBlock, Exit.then])
    refine bodyPost_ret (results_none rfl _ _ _) rfl ?_
    exact ⟨rfl, (HOq.out.setCell (.inl rfl) _).setCell (.inl rfl) _, .inl ⟨HP.out, HB3.out⟩⟩
  · have HP := Lib.hid hp
    go_wp2
    (try simp only [Exit.inBlock, Exit.then])
    refine bodyPost_ret (results_none rfl _ _ _) rfl ?_
    exact ⟨rfl, HOq.out, .inr ⟨HP.out, HBq.out⟩⟩

/-- What the reference's Done leaves of a closed one. -/
def DnR (g : Nat) (s f r p now un : Int) (l : List Bool) (out good : Int) (base : Nat → Prop) (S : Nat → Prop) (w : World) (e : Ending) (w' : World) : Prop :=
  e = .returned (.tuple #[]) ∧ Only S w w' ∧ ((bads (lastS s l) < f ∧ ∃ v, B38 w' g s f r p 0 now un v out good ∧ LastB w' base v l) ∨ (f ≤ bads (lastS s l) ∧ B38 w' g s f r p 1 now (ad now r) (.slice none 0 0) out good))

theorem own_ne38 {w : World} {base : Nat → Prop} {g : Nat} {v : Value} {l : List Bool} {cs : Array Value} (hL : LastB w base v l) (hg : w.heap[g]? = some (.cells cs 38 (0, 0))) : v.ownBlock ≠ some g := by
  rcases hL with ⟨rfl, rfl⟩ | ⟨q, o, c, cells, rfl, hq, hh, h1, h2, h3⟩
  · simp [Value.ownBlock]
  · intro e
    simp [Value.ownBlock] at e
    subst e
    rw [hg] at hh
    simp at hh

theorem LastB.form' {w : World} {base : Nat → Prop} {v : Value} {l : List Bool} (h : LastB w base v l) : ∃ A c, v = .slice A l.length c := by
  rcases h with ⟨rfl, rfl⟩ | ⟨q, o, c, cells, rfl, _, _, h1, _, _⟩
  · exact ⟨_, _, rfl⟩
  · exact ⟨_, _, rfl⟩

set_option maxHeartbeats 2000000 in
theorem done_r_0 (l : List Bool) (b : Bool) (base : Nat → Prop) (hb : B38 w g s f r p 0 now un v out good) (hL : LastB w base v l) (hs : 1 ≤ s ∧ s ≤ 64) (hl : l.length ≤ 200) (hbase : ∀ k, w.heap.size ≤ k → base k) :
    Calls Try.prog 12 #[.pointer (some ⟨g, 0, none⟩), .int .i64 t, .bool b] w (DnR g s f r p (mx now (cl t)) un (l ++ [b]) out good base (fun k => k = g ∨ v.ownBlock = some k) w) := by
  have HB := Lib.hid hb
  have HL := Lib.hid hL
  have HS := Lib.hid hs
  have hne := own_ne38 hL hb
  have HNE := Lib.hid hne
  obtain ⟨n, hn⟩ : ∃ n, n = (l ++ [b]).length := ⟨_, rfl⟩
  have hn2 : n = l.length + 1 := by rw [hn]; simp
  have HN := Lib.hid hn
  have hn3 : n ≤ 1000 := by omega
  have HLL := Lib.hid hl
  clear hb hL hl hne hn hn2 hs
  go_enter Try.func12, Try.ntmps12
  go_wp2_with (first | (go_at_call 21; refine (on_r _ _ _ _ _ _ _ _ _ _ _ t _ HB.out).mono ?_; rintro e w1 ⟨rfl, hb1, ho1⟩; have HB1 := Lib.hid hb1; have HO1 := Lib.hid ho1; have HL1 := Lib.hid (HL.out.only HNE.out ho1); have hc4 : w1.cell? ⟨g, 4, none⟩ = some (.int .i64 0) := cell_at hb1 4 rfl; have hc7 : w1.cell? ⟨g, 7, none⟩ = some v := cell_at hb1 7 rfl; clear hb1 ho1) | ((with_reducible refine gate_builtin (b := .append) (xs := #[.tmp 49, .tmp 51]) rfl ?_); at_builtin; obtain ⟨v2, w2, hr2, hL2, hO2⟩ := app_any HL1.out (fun k hk => hbase k (by have := HO1.out.size; omega)) (by have := HLL.out; omega) b 36; refine Go.Lib.wpList_append_run_sl _ rfl (.tmp 49) (.tmp 51) 36 rfl v _ rfl rfl hr2 ?_; obtain ⟨A, c, ev⟩ := hL2.form'; rw [← HN.out] at ev; subst ev; have hb2 := hO2.blk HB1.out HNE.out; have hd7 : w2.cell? ⟨g, 7, none⟩ = some v := cell_at hb2 7 rfl; have hf7 : w2.frozen? ⟨g, 7, none⟩ = false := blk_frozen hb2 7; have hb3 := blk_set hb2 7 (.slice A n c); have HL3 := Lib.hid (hL2.only (own_ne38 hL2 hb2) ((Only.refl (fun i => i = g) w2).setCell (p := ⟨g, 7, none⟩) (.inl rfl) (.slice A n c))); have HB3 : Hid (B38 (w2.setCell ⟨g, 7, none⟩ (.slice A n c)) g s f r p 0 (mx now (cl t)) un (.slice A n c) out good) := Lib.hid hb3; have HO3 : Hid (Only (fun k => k = g ∨ v.ownBlock = some k) w (w2.setCell ⟨g, 7, none⟩ (.slice A n c))) := Lib.hid ((((HO1.out.mono (fun _ h => .inl h)).trans (hO2.mono (fun _ h => .inr h))).setCell (.inl (.inl rfl)) _)); clear hr2 hL2 hO2 hb2 hb3))
  generalize w2.setCell ⟨g, 7, none⟩ (.slice A n c) = w3 at *
  have he7 : w3.cell? ⟨g, 7, none⟩ = some (.slice A n c) := cell_at HB3.out 7 rfl
  have he0 : w3.cell? ⟨g, 0, none⟩ = some (.int .i64 s) := cell_at HB3.out 0 rfl
  have he1 : w3.cell? ⟨g, 1, none⟩ = some (.int .i64 f) := cell_at HB3.out 1 rfl
  have HBL : Hid (∀ m, Bl (w3.drewN m) A (l ++ [b])) := Lib.hid (by
    obtain ⟨A2, c2, e2, h2⟩ := HL3.out.bl
    injection e2 with e3 e4 e5
    subst e3
    exact fun m => h2)
  have HF := Lib.hid (fun m => bad_r A n c (l ++ [b]) s (w3.drewN m) (HBL.out m) HN.out hn3 HS.out)
  obtain ⟨d, hd⟩ : ∃ d, d = bads (lastS s (l ++ [b])) := ⟨_, rfl⟩
  rw [← hd] at HF
  have HD := Lib.hid hd
  clear hd hc7 hc4 hd7 hf7
  go_quiet ((go_at_call 17; exact Calls.quiet_of_same ((HF.out _).mono fun _ _ h => ⟨h.1, h.2.symm⟩)))
  have HBq : Hid (B38 (w3.drewN nq) g s f r p 0 (mx now (cl t)) un (.slice A n c) out good) := Lib.hid HB3.out
  have HLq : Hid (LastB (w3.drewN nq) base (.slice A n c) (l ++ [b])) := Lib.hid HL3.out
  have HOq : Hid (Only (fun k => k = g ∨ v.ownBlock = some k) w (w3.drewN nq)) := Lib.hid (HO3.out.drewN _)
  generalize w3.drewN nq = wq at *
  rcases (by omega : d < f ∨ f ≤ d) with hlt | hge
  · have hge : ¬ f ≤ d := by omega
    go_wp2
    go_end0
    exact ⟨rfl, HOq.out, .inl ⟨by rw [← HD.out]; exact hlt, _, HBq.out, HLq.out⟩⟩
  · go_wp2_with (go_at_call 22; refine (opens_r _ _ _ _ _ _ _ _ _ _ _ _ HBq.out).mono ?_; rintro e w6 ⟨rfl, hb6, ho6⟩; have HB6 := Lib.hid hb6; have HO6 := Lib.hid ho6; clear hb6 ho6)
    go_end0
    exact ⟨rfl, HOq.out.trans (HO6.out.mono (fun _ h => .inl h)), .inr ⟨by rw [← HD.out]; exact hge, HB6.out⟩⟩
end

end Go.Proofs.Ytocbnfpnbgpfjaa.Brk

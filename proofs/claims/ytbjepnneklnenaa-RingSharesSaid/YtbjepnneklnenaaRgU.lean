/- Ring: New refuses. -/
import Derived.Test.YtbjepnneklnenaaRgT
set_option linter.unusedVariables false
set_option linter.unusedSimpArgs false
set_option maxRecDepth 100000
namespace Go.Proofs.Ytbjepnneklnenaa.Rg
open Go.RowKit Go.Maps Go.Shelf Go.Lib Go.Sort Go.Proofs.Ytbjepnneklnenaa.Base Go.Proofs.Ytbjepnneklnenaa.Rws Go.Proofs.Ytbjepnneklnenaa.Crc Go.Proofs.YtbjepnneklnenaaW.PrintWords Go.Proofs.YtbjepnneklnenaaW.PrintMore
attribute [local go_sem] max2_mx min2_mn max_two min_two max_three min_three max_four min_four

/-- Out of bounds. -/
theorem new_arg (A : Option Addr) (n cap : Nat) (R : Int) (w : World) (h : R < 1 ∨ 32 < R ∨ 64 < n) :
    Calls Try.prog 8 #[.slice A n cap, .int .i64 R] w fun e w' => e = .returned (.tuple #[.pointer none, .int .i64 2]) ∧ w = w' := by
  by_cases h1 : R < 1
  · clear h
    go_enter Try.func8, Try.ntmps8
    go_wp2
    go_ret2
    exact ⟨rfl, rfl⟩
  · by_cases h2 : 32 < R
    · clear h
      go_enter Try.func8, Try.ntmps8
      go_wp2
      go_ret2
      exact ⟨rfl, rfl⟩
    · have h3 : (64 : Int) < (n : Int) := by omega
      clear h
      go_enter Try.func8, Try.ntmps8
      go_wp2
      go_ret2
      exact ⟨rfl, rfl⟩

theorem new_bad (A : Option Addr) (cap : Nat) (l : List Int) (R : Int) (w : World) (h1 : 1 ≤ R) (h2 : R ≤ 32) (h3 : l.length ≤ 64) (hr : Rd w A l) (hb : l.any bad = true) :
    Calls Try.prog 8 #[.slice A l.length cap, .int .i64 R] w fun e w' => e = .returned (.tuple #[.pointer none, .int .i64 2]) ∧ Only (fun _ => False) w w' := by
  have HC := Lib.hid (contains_p A cap l w (by omega) hr)
  rw [hb] at HC
  obtain ⟨n, hn⟩ : ∃ n, n = l.length := ⟨_, rfl⟩
  rw [← hn] at HC h3 ⊢
  have g1 : ¬ R < 1 := by omega
  have g2 : ¬ 32 < R := by omega
  have g3 : ¬ (64 : Int) < (n : Int) := by omega
  clear hr hb hn h1 h2
  go_enter Try.func8, Try.ntmps8
  go_wp2_with (go_at_call 15; refine HC.out.mono ?_; rintro e w' ⟨rfl, ho⟩; have HO := Lib.hid ho; clear ho)
  go_ret2
  exact ⟨rfl, HO.out⟩

theorem only_none {w w' : World} (h : Only (fun _ => False) w w') (S : Nat → Prop) : Only S w w' := h.mono (fun _ k => k.elim)

set_option maxHeartbeats 4000000 in
/-- One is there twice. -/
theorem new_twice (A : Option Addr) (cap : Nat) (l : List Int) (R : Int) (w : World) (h1 : 1 ≤ R) (h2 : R ≤ 32) (h3 : l.length ≤ 64) (hr : Rd w A l) (hb : l.any bad = false) (ht : (Lib.compact (srt l)).length ≠ l.length) :
    Calls Try.prog 8 #[.slice A l.length cap, .int .i64 R] w fun e w' => e = .returned (.tuple #[.pointer none, .int .i64 8]) ∧ Only (fun _ => False) w w' := by
  have HC := Lib.hid (contains_p A cap l w (by omega) hr)
  rw [hb] at HC
  have hsl : (srt l).length = l.length := List.length_mergeSort _
  have HSO : Hid (∀ w1, Only (fun _ => False) w w1 → Calls Try.prog 17 #[.func (.func 32) #[] #[.pointer (some ⟨w1.heap.size, 0, none⟩)]] (w1.alloc (.cells #[.slice A l.length cap] 22)) fun e w' => ∃ A1 c1, e = .returned (.slice A1 l.length c1) ∧ Ks w' (fun k => w1.heap.size < k) (.slice A1 l.length c1) (srt l) ∧ Only (fun _ => False) w1 w') := Lib.hid (fun w1 ho => by
    have hro : Rd (w1.alloc (.cells #[.slice A l.length cap] 22)) A l := hr.only (ho.alloc _)
    refine (sorted_p w1.heap.size cap A l (by omega) _ (cell_at (heap_alloc_new w1 _) 0 rfl) hro).mono ?_
    rintro e w' ⟨v, he, hk, ho2⟩
    have hsz : (w1.alloc (.cells #[.slice A l.length cap] 22)).heap.size = w1.heap.size + 1 := by show (w1.heap.push _).size = _; simp
    rw [hsz] at hk
    have hk2 : Ks w' (fun k => w1.heap.size < k) v (srt l) := Row.to hk (fun k hk2 => (Row.own hk hk2).1)
    obtain ⟨A1, c1, hv, _⟩ := Row.form hk2
    rw [hsl] at hv
    subst hv
    exact ⟨A1, c1, he, hk2, ((Only.refl _ w1).alloc _).trans ho2⟩)
  obtain ⟨n, hn⟩ : ∃ n, n = l.length := ⟨_, rfl⟩
  have HCL : Hid (∀ (w1 : World) (P : Nat → Prop) (v : Value), Ks w1 P v (srt l) → Calls Try.prog 20 #[v] w1 fun e w' => ∃ v', e = .returned v' ∧ Ks w' (fun k => w1.heap.size ≤ k) v' (srt l) ∧ Only (fun _ => False) w1 w') := Lib.hid (fun w1 P v hk => clone_p hk (by omega))
  have HCP : Hid (∀ (w1 : World) (P : Nat → Prop) (v : Value), Ks w1 P v (srt l) → Calls Try.prog 19 #[v] w1 fun e w' => (∃ A c, e = .returned (.slice A (Lib.compact (srt l)).length c)) ∧ Only (fun k => v.ownBlock = some k) w1 w') := Lib.hid (fun w1 P v hk => compact_p hk (by omega))
  rw [← hn] at HC HSO h3 ht ⊢
  obtain ⟨m, hm⟩ : ∃ m, m = (Lib.compact (srt l)).length := ⟨_, rfl⟩
  rw [← hm] at HCP ht
  have hmb : m ≤ 64 := by have := compact_length_le (srt l); omega
  have g1 : ¬ R < 1 := by omega
  have g2 : ¬ 32 < R := by omega
  have g3 : ¬ (64 : Int) < (n : Int) := by omega
  have g4 : ¬ (m : Int) = (n : Int) := by omega
  obtain ⟨sl, hsl2⟩ : ∃ sl, sl = srt l := ⟨_, rfl⟩
  rw [← hsl2] at HSO HCL HCP
  clear hr hb hn h1 h2 hm ht hsl hsl2
  go_enter Try.func8, Try.ntmps8
  go_upto_region 6 with (first
    | (go_at_call 15; refine HC.out.mono ?_; rintro e w1 ⟨rfl, ho⟩; have HO := Lib.hid ho; clear ho)
    | (go_at_call 18; refine (values_p _ _ _ _).mono ?_; rintro e w' ⟨rfl, rfl⟩)
    | (go_at_call 17; refine (HSO.out _ HO.out).mono ?_; rintro e w2 ⟨A1, c1, rfl, hk, ho⟩; have HK := Lib.hid hk; have HO2 := Lib.hid (HO.out.trans ho); clear hk ho))
  obtain ⟨w3, hw3⟩ : ∃ w3, w3 = w2.alloc (.cells #[.slice A1 n c1, .slice none 0 0] 50) := ⟨_, rfl⟩
  obtain ⟨g, hg⟩ : ∃ g, g = w2.heap.size := ⟨_, rfl⟩
  rw [← hw3, ← hg]
  have hk3 : w3.heap[g]? = some (.cells #[.slice A1 n c1, .slice none 0 0] 50 (0, 0)) := by rw [hw3, hg]; exact heap_alloc_new w2 _
  have x0 : w3.cell? ⟨g, 0, none⟩ = some (.slice A1 n c1) := cell_at hk3 0 rfl
  have HO3 : Hid (Only (fun _ => False) w w3) := Lib.hid (by rw [hw3]; exact HO2.out.alloc _)
  have HK3 : Hid (Ks w3 (fun k => w1.heap.size < k) (.slice A1 n c1) sl) := Lib.hid (Row.keep HK.out (fun q hq hlt => by rw [hw3]; exact heap_alloc_old w2 _ _ hlt))
  clear hk3 hw3 hg
  go_wp2_with (first
    | (go_at_call 20; refine (HCL.out _ _ _ HK3.out).mono ?_; rintro e w4 ⟨v', rfl, hk4, ho4⟩; have HK4 := Lib.hid hk4; have HO4 := Lib.hid (HO3.out.trans ho4); have HW3 : Hid (w.heap.size ≤ w3.heap.size) := Lib.hid HO3.out.size; clear hk4 ho4)
    | (go_at_call 19; refine (HCP.out _ _ _ HK4.out).mono ?_; rintro e w5 ⟨⟨A5, c5, rfl⟩, ho5⟩; have HO5 : Hid (Only (fun _ => False) w w5) := Lib.hid (HO4.out.then_ ho5 (fun q hq => .inr (by have := (Row.own HK4.out hq).1; have := HW3.out; omega))); clear ho5))
  go_ret2
  exact ⟨rfl, HO5.out⟩
end Go.Proofs.Ytbjepnneklnenaa.Rg

/- Ring: New and Owner, told by what may be and by who is nearest; the example. -/
import Derived.Test.YtbjepnneklnenaaRgB
set_option linter.unusedVariables false
set_option linter.unusedSimpArgs false
set_option maxRecDepth 100000
namespace Go.Proofs.Ytbjepnneklnenaa.Rg
open Go.RowKit Go.Maps Go.Shelf Go.Lib Go.Sort Go.Proofs.Ytbjepnneklnenaa.Base Go.Proofs.Ytbjepnneklnenaa.Rws Go.Proofs.Ytbjepnneklnenaa.Crc Go.Proofs.YtbjepnneklnenaaW.PrintWords Go.Proofs.YtbjepnneklnenaaW.PrintMore
attribute [local go_sem] max2_mx min2_mn max_two min_two max_three min_three max_four min_four

theorem dup_false {l : List Int} : dupB [] l = false ↔ l.Nodup := by simpa using dupB_iff l [] List.nodup_nil

/-- New refuses. -/
theorem new_not (A : Option Addr) (cap : Nat) (l : List Int) (R : Int) (w : World) (hr : Rd w A l) (h : wr l R ≠ 0) :
    Calls Try.prog 8 #[.slice A l.length cap, .int .i64 R] w fun e w' => e = .returned (.tuple #[.pointer none, .int .i64 (wr l R)]) ∧ Only (fun _ => False) w w' := by
  unfold wr at *
  by_cases h1 : R < 1 ∨ 32 < R ∨ 64 < l.length
  · rw [if_pos h1]
    refine (new_arg A l.length cap R w h1).mono ?_
    rintro e w' ⟨rfl, rfl⟩
    exact ⟨rfl, Only.refl _ _⟩
  · rw [if_neg h1] at h ⊢
    by_cases h2 : l.any bad = true
    · rw [if_pos h2]
      exact new_bad A cap l R w (by omega) (by omega) (by omega) hr h2
    · rw [if_neg h2] at h ⊢
      by_cases h3 : dupB [] l = true
      · rw [if_pos h3]
        refine new_twice A cap l R w (by omega) (by omega) (by omega) hr (by simpa using h2) ?_
        intro h4
        have := dup_false.2 ((compact_len l).1 h4)
        rw [h3] at this
        cases this
      · rw [if_neg h3] at h
        exact absurd rfl h

/-- New makes a ring. -/
theorem new_may (A : Option Addr) (cap : Nat) (l : List Int) (R : Nat) (w : World) (hr : Rd w A l) (h : wr l (R : Int) = 0) :
    Calls Try.prog 8 #[.slice A l.length cap, .int .i64 (R : Int)] w fun e w' => ∃ g v1 v2, e = .returned (.tuple #[.pointer (some ⟨g, 0, none⟩), .int .i64 0]) ∧ RG w' g (fun k => w.heap.size ≤ k) v1 v2 (srt l) (sortP (pts (srt l) R)) ∧ Only (fun _ => False) w w' := by
  obtain ⟨h1, h2, h3, h4, h5⟩ := wr_zero h
  exact new_ring A cap l R w (by omega) (by omega) h3 hr h4 (bad_no h4) ((compact_len l).2 h5)

theorem sorted_len (l : List Int) (R : Nat) : (sortP (pts (srt l) R)).length = l.length * R := by
  rw [(sortP_perm _).length_eq, pts_len, srt_len]

theorem mem_pts_srt {l : List Int} {R : Nat} {p : Pt} : p ∈ pts (srt l) R ↔ p ∈ pts l R := by
  rw [mem_pts, mem_pts, mem_srt]

/-- Owner: some. -/
theorem own_some {w : World} {g : Nat} {Q : Nat → Prop} {v1 v2 : Value} {l : List Int} {R : Nat} (h : RG w g Q v1 v2 (srt l) (sortP (pts (srt l) R))) (hl : l.length ≤ 64) (hR : R ≤ 32) (hR0 : 0 < R) (h0 : 0 < l.length) (key : ByteArray) (hk : key.size ≤ 100000) :
    Calls Try.prog 10 #[.pointer (some ⟨g, 0, none⟩), .string key] w fun e w' => ∃ o, e = .returned (.tuple #[.int .i64 o, .bool true]) ∧ Own (pts l R) (sumZ key) o ∧ Only (fun _ => False) w w' := by
  have h1 : l.length * R ≤ 64 * 32 := Nat.mul_le_mul hl hR
  have h2 : 0 < l.length * R := Nat.mul_pos h0 hR0
  refine (owner_p h (by rw [sorted_len]; omega) (by rw [sorted_len]; exact h2) (sortP_pw _) key hk).mono ?_
  rintro e w' ⟨o, he, hg, ho⟩
  refine ⟨o, he, (own_of_goes (fun p hp => pts_a hp) (sum_lo key) (sum_hi key) hg).of_mem (fun p => mem_pts_srt), ho⟩

/-- Owner: none. -/
theorem own_none {w : World} {g : Nat} {Q : Nat → Prop} {v1 v2 : Value} {l : List Int} {R : Nat} (h : RG w g Q v1 v2 (srt l) (sortP (pts (srt l) R))) (h0 : l.length = 0) (key : ByteArray) :
    Calls Try.prog 10 #[.pointer (some ⟨g, 0, none⟩), .string key] w fun e w' => e = .returned (.tuple #[.int .i64 0, .bool false]) ∧ w = w' := by
  have hz : sortP (pts (srt l) R) = [] := List.length_eq_zero_iff.1 (by rw [sorted_len, h0, Nat.zero_mul])
  rw [hz] at h
  exact owner_empty h key

theorem srt7 : srt [7] = [7] := List.length_eq_one_iff.1 (srt_len [7]) |>.elim (fun a h => by
  rw [h]
  have : a ∈ srt [7] := by rw [h]; simp
  rw [mem_srt] at this
  rw [List.mem_singleton.1 this])

theorem own7 {f o : Int} (h : Own (pts [7] 2) f o) : o = 7 := by
  obtain ⟨p, hp, ho, _⟩ := h
  have := (mem_pts.1 hp).1
  rw [ho, List.mem_singleton.1 this]

set_option maxHeartbeats 4000000 in
theorem awake_p (w : World) : Calls Try.prog 7 #[] w fun e w' => e = .returned (.bool true) ∧ Only (fun _ => False) w w' := by
  obtain ⟨w1, hw1⟩ : ∃ w1, w1 = w.alloc (.cells #[.int .i64 7] 3) := ⟨_, rfl⟩
  obtain ⟨N, hN⟩ : ∃ N, N = w.heap.size := ⟨_, rfl⟩
  have hk : w1.heap[N]? = some (.cells #[.int .i64 7] 3 (0, 0)) := by rw [hw1, hN]; exact heap_alloc_new w _
  have hrd : Rd w1 (some ⟨N, 0, none⟩) [7] := fun j x hx => by
    refine ⟨_, rfl, ?_⟩
    match j, hx with
    | 0, hx =>
      simp at hx
      subst hx
      exact cell_at hk 0 rfl
    | j + 1, hx => simp at hx
  have hwr : wr [7] ((2 : Nat) : Int) = 0 := by decide
  have HNW := Lib.hid (new_may (some ⟨N, 0, none⟩) 1 [7] 2 w1 hrd hwr)
  have HO : Hid (Only (fun _ => False) w w1) := Lib.hid (by rw [hw1]; exact (Only.refl _ w).alloc _)
  have HOS : Hid (∀ (w2 : World) (g : Nat) (Q : Nat → Prop) (v1 v2 : Value), RG w2 g Q v1 v2 (srt [7]) (sortP (pts (srt [7]) 2)) → ∀ key : ByteArray, key.size ≤ 10 → Calls Try.prog 10 #[.pointer (some ⟨g, 0, none⟩), .string key] w2 fun e w' => e = .returned (.tuple #[.int .i64 7, .bool true]) ∧ Only (fun _ => False) w2 w') := Lib.hid (fun w2 g Q v1 v2 h key hk => by
    refine (own_some h (by decide) (by decide) (by decide) (by decide) key (by omega)).mono ?_
    rintro e w' ⟨o, rfl, ho, hw⟩
    rw [own7 ho]
    exact ⟨rfl, hw⟩)
  have HPN : Hid (∀ (w2 : World) (g : Nat) (Q : Nat → Prop) (v1 v2 : Value), RG w2 g Q v1 v2 (srt [7]) (sortP (pts (srt [7]) 2)) → Calls Try.prog 12 #[.pointer (some ⟨g, 0, none⟩)] w2 fun e w' => e = .returned (.int .i64 2) ∧ w2 = w') := Lib.hid (fun w2 g Q v1 v2 h => by
    have := points_p h
    rw [sorted_len] at this
    exact this)
  clear hk hrd hwr
  go_enter Try.func7, Try.ntmps7
  go_upto_region 1 with fail
  go_upto_region 2 with (go_at_call 8; rw [← hw1, ← hN]; refine HNW.out.mono ?_; rintro e w2 ⟨g, v1, v2, rfl, hrg, ho⟩; have HRG := Lib.hid hrg; have HO2 := Lib.hid (HO.out.trans ho); clear hrg ho)
  go_wp2_with (first
    | (go_at_call 10; (with_reducible refine (HOS.out _ _ _ _ _ HRG.out _ (by decide)).mono ?_); rintro e w3 ⟨rfl, ho⟩; have HRH := Lib.hid (HRG.out.only ho (fun _ _ _ h => h)); have HO3 := Lib.hid (HO2.out.trans ho); clear HRG HO2 ho; have HRG := HRH; have HO2 := HO3; clear HRH HO3)
    | (go_at_call 12; (with_reducible refine (HPN.out _ _ _ _ _ HRG.out).mono ?_); rintro e w' ⟨rfl, rfl⟩))
  go_ret
  exact ⟨rfl, HO2.out⟩
end Go.Proofs.Ytbjepnneklnenaa.Rg

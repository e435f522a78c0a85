/- Ring: is a member out of bounds? -/
import Derived.Test.YtbjepnneklnenaaRgK
set_option linter.unusedVariables false
set_option linter.unusedSimpArgs false
namespace Go.Proofs.Ytbjepnneklnenaa.Rg
open Go.RowKit Go.Maps Go.Proofs.Ytbjepnneklnenaa.Base Go.Proofs.Ytbjepnneklnenaa.Rws Go.Proofs.YtbjepnneklnenaaW.PrintWords Go.Proofs.YtbjepnneklnenaaW.PrintMore
attribute [local go_sem] max2_mx min2_mn max_two min_two max_three min_three max_four min_four

theorem Rd.only {w w' : World} {A : Option Addr} {l : List Int} (h : Rd w A l) (ho : Only (fun _ => False) w w') : Rd w' A l := fun j x hx => by
  obtain ⟨a, ha, hv⟩ := h j x hx
  refine ⟨a, ha, ?_⟩
  have := (ho.below (Below.refl _ _) (Nat.le_refl _) (fun _ h => h.elim)).cell (World.block_lt_of_cell? w _ hv)
  rw [hv] at this
  exact this

/-- May not be a member. -/
def bad (m : Int) : Bool := decide (m < 0 ∨ 64 ≤ m)

theorem bad_p (m : Int) (w : World) : Calls Try.prog 16 #[.int .i64 m] w fun e w' => e = .returned (.bool (bad m)) ∧ w = w' := by
  unfold bad
  by_cases h : m < 0
  · rw [decide_eq_true (Or.inl h)]
    go_enter Try.func16, Try.ntmps16
    go_wp2
    go_ret
    exact ⟨by simp [h], rfl⟩
  · by_cases h2 : 64 ≤ m
    · rw [decide_eq_true (Or.inr h2)]
      go_enter Try.func16, Try.ntmps16
      go_wp2
      go_ret
      exact ⟨by simp [h2], rfl⟩
    · rw [decide_eq_false (fun h3 => h3.elim h h2)]
      go_enter Try.func16, Try.ntmps16
      go_wp2
      go_ret
      exact ⟨by simp [h, h2], rfl⟩

set_option maxHeartbeats 4000000 in
theorem index_p (A : Option Addr) (cap : Nat) (l : List Int) (w : World) (hl : l.length ≤ 1000) (h : Rd w A l) :
    Calls Try.prog 29 #[.slice A l.length cap, .func (.func 16) #[] #[]] w fun e w' => (∃ i, e = .returned (.int .i64 i) ∧ (0 ≤ i ↔ l.any bad = true)) ∧ Only (fun _ => False) w w' := by
  obtain ⟨n, hn⟩ : ∃ n, n = l.length := ⟨_, rfl⟩
  rw [← hn]
  have HN := Lib.hid hn
  have hnb : n ≤ 1000 := by omega
  have HR := Lib.hid h
  obtain ⟨ab, hab⟩ : ∃ ab, ab = l.any bad := ⟨_, rfl⟩
  rw [← hab]
  have HAB := Lib.hid hab
  clear h hl hn hab
  go_enter Try.func29, Try.ntmps29
  go_upto_region 2 with fail
  go_loopw [5, 8] (fun _ v8 wr => ∃ i : Nat, v8 = .int .i64 (i : Int) ∧ i ≤ n ∧ Hid ((l.take i).any bad = false) ∧ Hid (Only (fun _ => False) w wr)) (fun _ v8 _ => n - (RowKit.intOf v8).toNat)
  case atStart => exact ⟨0, rfl, Nat.zero_le _, Lib.hid rfl, Lib.hid (Only.refl _ _)⟩
  case round =>
    obtain ⟨i, rfl, hi, HA, HO⟩ := hrel
    have hgo : i < n ∨ i = n := by omega
    rcases hgo with hlt | rfl
    · have hlt' : (i : Int) < (n : Int) := by omega
      have hge : l[i]? = some l[i] := List.getElem?_eq_getElem (by rw [← HN.out]; exact hlt)
      obtain ⟨m, hm⟩ : ∃ m, m = l[i] := ⟨_, rfl⟩
      rw [← hm] at hge
      obtain ⟨ad, rfl, hx⟩ := (HR.out.only HO.out) i m hge
      have HTK : Hid ((l.take (i + 1)).any bad = bad m) := Lib.hid (by rw [List.take_add_one, hge, Option.toList_some, List.any_append, HA.out]; simp)
      have HM : Hid (m ∈ l) := Lib.hid (List.mem_of_getElem? hge)
      have HB := Lib.hid (fun w => bad_p m w)
      obtain ⟨b, hb⟩ : ∃ b, b = bad m := ⟨_, rfl⟩
      have HBB := Lib.hid hb
      rw [← hb] at HB HTK
      clear hge hm hb
      cases b with
      | true =>
        go_wp2_with (go_at_call 16; refine (HB.out _).mono ?_; rintro e w' ⟨rfl, rfl⟩)
        go_ret
        exact ⟨⟨_, rfl, ⟨fun _ => by rw [HAB.out]; exact List.any_eq_true.2 ⟨m, HM.out, HBB.out.symm⟩, fun _ => by omega⟩⟩, HO.out⟩
      | false =>
        go_wp2_with (go_at_call 16; refine (HB.out _).mono ?_; rintro e w' ⟨rfl, rfl⟩)
        go_roundw
        case rel => exact ⟨i + 1, by go_num, by omega, HTK, HO⟩
        case measure => simp [RowKit.intOf]; omega
    · have hge : ¬ (i : Int) < i := by omega
      have HF : Hid (ab = false) := Lib.hid (by rw [HAB.out]; have := HA.out; rwa [HN.out, List.take_length] at this)
      go_wp2
      go_ret
      exact ⟨⟨-1, rfl, ⟨fun h => by omega, fun h => by rw [HF.out] at h; cases h⟩⟩, HO.out⟩

theorem contains_p (A : Option Addr) (cap : Nat) (l : List Int) (w : World) (hl : l.length ≤ 1000) (h : Rd w A l) :
    Calls Try.prog 15 #[.slice A l.length cap, .func (.func 16) #[] #[]] w fun e w' => e = .returned (.bool (l.any bad)) ∧ Only (fun _ => False) w w' := by
  have HI := Lib.hid (index_p A cap l w hl h)
  obtain ⟨n, hn⟩ : ∃ n, n = l.length := ⟨_, rfl⟩
  obtain ⟨ab, hab⟩ : ∃ ab, ab = l.any bad := ⟨_, rfl⟩
  rw [← hn, ← hab] at HI ⊢
  clear hn h hl hab
  go_enter Try.func15, Try.ntmps15
  go_wp2_with (go_at_call 29; refine HI.out.mono ?_; rintro e w1 ⟨⟨i, rfl, hi⟩, ho⟩; have HO := Lib.hid ho; have HI2 := Lib.hid hi; clear hi ho)
  go_ret
  refine ⟨?_, HO.out⟩
  have hi := HI2.out
  cases ab with
  | true =>
    have h0 : 0 ≤ i := hi.2 rfl
    simp [h0]
  | false =>
    have h0 : ¬ 0 ≤ i := fun h => by have := hi.1 h; cases this
    simp [h0]
end Go.Proofs.Ytbjepnneklnenaa.Rg

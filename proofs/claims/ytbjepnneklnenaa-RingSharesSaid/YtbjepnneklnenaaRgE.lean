/- Ring: when a member goes, no key moves but its own. -/
import Derived.Test.YtbjepnneklnenaaRgD
set_option linter.unusedVariables false
set_option linter.unusedSimpArgs false
set_option maxRecDepth 100000
namespace Go.Proofs.Ytbjepnneklnenaa.Rg
open Go.RowKit Go.Maps Go.Shelf Go.Lib Go.Sort Go.Proofs.Ytbjepnneklnenaa.Base Go.Proofs.Ytbjepnneklnenaa.Rws Go.Proofs.Ytbjepnneklnenaa.Crc Go.Proofs.YtbjepnneklnenaaW.PrintWords Go.Proofs.YtbjepnneklnenaaW.PrintMore
open Go.Proofs.Ytbjepnneklnenaa.PR (hourglassref42_Without.f hourglassref42_Without.l0 hourglassref42_Without.calls)
attribute [local go_sem] max2_mx min2_mn max_two min_two max_three min_three max_four min_four

theorem wr_of {l : List Int} {R : Int} (h1 : 1 ≤ R) (h2 : R ≤ 32) (h3 : l.length ≤ 64) (h4 : l.any bad = false) (h5 : l.Nodup) : wr l R = 0 := by
  unfold wr
  rw [if_neg (by omega), if_neg (by rw [h4]; decide), if_neg (by rw [dup_false.2 h5]; decide)]

theorem any_bad {l : List Int} (h : ∀ m ∈ l, 0 ≤ m ∧ m ≤ 63) : l.any bad = false := by
  rw [List.any_eq_false]
  intro m hm
  have := h m hm
  unfold bad
  simp
  omega

/-- Owner's answer. -/
def ow (l : List Int) (R : Nat) (f : Int) : Int × Bool := if l.length = 0 then (0, false) else (docO l R f, true)

theorem pts_ne {l : List Int} {R : Nat} (h0 : l.length ≠ 0) (hR : 1 ≤ R) : pts l R ≠ [] := fun e => by
  have := pts_len l R
  rw [e] at this
  have h6 : 0 < l.length * R := Nat.mul_pos (by omega) (by omega)
  simp at this
  omega

theorem ow_own {l : List Int} {R : Nat} {f : Int} (hz : wr l (R : Int) = 0) (h0 : l.length ≠ 0) : Own (pts l R) f (ow l R f).1 := by
  obtain ⟨h1, _, _, h4, _⟩ := wr_zero hz
  unfold ow
  rw [if_neg h0]
  exact docO_own (fun m hm => (bad_no h4 m hm).1) (pts_ne h0 (by omega))

theorem ow_none {l : List Int} {R : Nat} {f : Int} (h0 : l.length = 0) : ow l R f = (0, false) := by unfold ow; rw [if_pos h0]
theorem ow_some {l : List Int} {R : Nat} {f : Int} (h0 : l.length ≠ 0) : (ow l R f).2 = true := by unfold ow; rw [if_neg h0]

theorem ow_mem {l : List Int} {R : Nat} {f : Int} (hz : wr l (R : Int) = 0) (h0 : l.length ≠ 0) : (ow l R f).1 ∈ l := by
  obtain ⟨p, hp, ho, _⟩ := ow_own (f := f) hz h0
  rw [ho]
  exact (mem_pts.1 hp).1

theorem own_any {w : World} {g : Nat} {Q : Nat → Prop} {v1 v2 : Value} {l : List Int} {R : Nat} (h : RG w g Q v1 v2 (srt l) (sortP (pts (srt l) R))) (hz : wr l (R : Int) = 0) (key : ByteArray) (hk : key.size ≤ 5000) :
    Calls Try.prog 10 #[.pointer (some ⟨g, 0, none⟩), .string key] w fun e w' => e = .returned (.tuple #[.int .i64 (ow l R (sumZ key)).1, .bool (ow l R (sumZ key)).2]) ∧ Only (fun _ => False) w w' := by
  obtain ⟨h1, h2, h3, h4, h5⟩ := wr_zero hz
  by_cases h0 : l.length = 0
  · rw [ow_none h0]
    refine (own_none h h0 key).mono ?_
    rintro e w' ⟨rfl, rfl⟩
    exact ⟨rfl, Only.refl _ _⟩
  · refine (own_some h h3 (by omega) (by omega) (by omega) key (by omega)).mono ?_
    rintro e w' ⟨o, rfl, ho, hw⟩
    rw [ow_some h0, ho.one (ow_own hz h0)]
    exact ⟨rfl, hw⟩

/-- The ring at g tells a key's owner. -/
def Has (key : ByteArray) (x : Int) (b : Bool) (g : Nat) (w : World) : Prop := ∀ w2, Only (fun _ => False) w w2 → Calls Try.prog 10 #[.pointer (some ⟨g, 0, none⟩), .string key] w2 fun e w' => e = .returned (.tuple #[.int .i64 x, .bool b]) ∧ Only (fun _ => False) w2 w'
theorem Has.on {key : ByteArray} {x : Int} {b : Bool} {g : Nat} {w w2 : World} (h : Has key x b g w) (ho : Only (fun _ => False) w w2) : Has key x b g w2 := fun w3 h3 => h w3 (ho.trans h3)

/-- New makes such a ring. -/
def Makes (key : ByteArray) (x : Int) (b : Bool) (v : Value) (R : Int) (w : World) : Prop := ∀ w2, Only (fun _ => False) w w2 → Calls Try.prog 8 #[v, .int .i64 R] w2 fun e w' => ∃ g, e = .returned (.tuple #[.pointer (some ⟨g, 0, none⟩), .int .i64 0]) ∧ Has key x b g w' ∧ Only (fun _ => False) w2 w'

theorem makes_p {w : World} {A : Option Addr} {c : Nat} {l : List Int} {R : Nat} (hr : Rd w A l) (hz : wr l (R : Int) = 0) (key : ByteArray) (hk : key.size ≤ 5000) : Makes key (ow l R (sumZ key)).1 (ow l R (sumZ key)).2 (.slice A l.length c) (R : Int) w := fun w2 h2 => by
  refine (new_may A c l R w2 (hr.only h2) hz).mono ?_
  rintro e w' ⟨g, v1, v2, rfl, hrg, ho⟩
  exact ⟨g, rfl, fun w3 h3 => own_any (hrg.only h3 (fun _ _ _ h => h)) hz key hk, ho⟩

/-- All but one. -/
def wout (l : List Int) (m : Int) : List Int := l.filter (fun x => decide (x ≠ m))
theorem mem_wout {l : List Int} {m x : Int} : x ∈ wout l m ↔ x ∈ l ∧ x ≠ m := by unfold wout; rw [List.mem_filter, decide_eq_true_iff]
theorem wout_le (l : List Int) (m : Int) : (wout l m).length ≤ l.length := List.length_filter_le _ _

theorem wr_wout {l : List Int} {R : Int} (m : Int) (hz : wr l R = 0) : wr (wout l m) R = 0 := by
  obtain ⟨h1, h2, h3, h4, h5⟩ := wr_zero hz
  have := wout_le l m
  exact wr_of h1 h2 (by omega) (any_bad (fun x hx => bad_no h4 x (mem_wout.1 hx).1)) (h5.sublist List.filter_sublist)

theorem without_run (l : List Int) (m : Int) (hl : l.length ≤ 100) : ∀ (c i F : Nat) (acc : List Int), i + c = l.length → acc.length ≤ i → hourglassref42_Without.l0 (F + c + 1) l m acc (i : Int) = some (acc ++ wout (l.drop i) m)
  | 0, i, F, acc, h, ha => by
    have : l.drop i = [] := List.drop_eq_nil_of_le (by omega)
    rw [this, hourglassref42_Without.l0, if_neg (by omega)]
    simp [wout]
  | c + 1, i, F, acc, h, ha => by
    obtain ⟨x, hx⟩ : ∃ x, l[i]? = some x := ⟨_, List.getElem?_eq_getElem (by omega)⟩
    have hd : l.drop i = x :: l.drop (i + 1) := by
      obtain ⟨h1, h2⟩ := List.getElem?_eq_some_iff.1 hx
      rw [List.drop_eq_getElem_cons h1, h2]
    rw [show F + (c + 1) + 1 = (F + c + 1) + 1 by omega, hourglassref42_Without.l0, if_pos (by omega), if_pos (by omega), rd_get hx, w_succ i (by omega), hd]
    by_cases h1 : x = m
    · rw [if_pos h1, without_run l m hl c (i + 1) F acc (by omega) (by omega)]
      simp [wout, h1]
    · rw [if_neg h1, if_pos (by omega), without_run l m hl c (i + 1) F (acc ++ [x]) (by omega) (by simp; omega)]
      simp [wout, h1]

theorem without_f (l : List Int) (m : Int) (hl : l.length ≤ 100) : hourglassref42_Without.f 200 l m = some (wout l m) := by
  unfold hourglassref42_Without.f
  have := without_run l m hl l.length 0 (199 - l.length) [] (by omega) (by simp)
  rwa [show 199 - l.length + l.length + 1 = 200 by omega, List.drop_zero, List.nil_append] at this

theorem without_p {w : World} {A : Option Addr} {c : Nat} {l : List Int} (h : Kd.C KI w A l.length l) (hc : l.length ≤ c) (hl : l.length ≤ 100) (m : Int) :
    Calls Try.prog 13 #[.slice A l.length c, .int .i64 m] w fun e w' => ∃ A' c', e = .returned (.slice A' (wout l m).length c') ∧ Rd w' A' (wout l m) ∧ Only (fun _ => False) w w' := by
  refine (hourglassref42_Without.calls 200 A c l m (wout l m) w h hc (without_f l m hl)).mono ?_
  rintro e w' ⟨v, rfl, hr, hb⟩
  obtain ⟨A', c', rfl, _, hC⟩ := Kd.R_reads hr
  exact ⟨A', c', rfl, rd_C hC, Only.of_below hb⟩

theorem ow_moves {l : List Int} {R : Nat} {f : Int} (m : Int) (hz : wr l (R : Int) = 0) :
    (l.length = 0 ∧ (ow l R f) = (0, false) ∧ ow (wout l m) R f = (0, false)) ∨ (l.length ≠ 0 ∧ (ow l R f).1 = m ∧ (ow l R f).2 = true ∧ (ow (wout l m) R f).2 = false) ∨ (l.length ≠ 0 ∧ (ow l R f).1 = m ∧ (ow l R f).2 = true ∧ (ow (wout l m) R f).2 = true ∧ (ow (wout l m) R f).1 ≠ m) ∨ (l.length ≠ 0 ∧ (ow l R f).1 ≠ m ∧ (ow l R f).2 = true ∧ (ow (wout l m) R f).2 = true ∧ (ow (wout l m) R f).1 = (ow l R f).1) := by
  have hz2 := wr_wout m hz
  by_cases h0 : l.length = 0
  · have := wout_le l m
    exact .inl ⟨h0, ow_none h0, ow_none (by omega)⟩
  · right
    by_cases h1 : (ow l R f).1 = m
    · by_cases h2 : (wout l m).length = 0
      · exact .inl ⟨h0, h1, ow_some h0, by rw [ow_none h2]⟩
      · exact .inr (.inl ⟨h0, h1, ow_some h0, ow_some h2, (mem_wout.1 (ow_mem hz2 h2)).2⟩)
    · have h2 : (wout l m).length ≠ 0 := fun e => by
        have : (ow l R f).1 ∈ wout l m := mem_wout.2 ⟨ow_mem hz h0, h1⟩
        rw [List.length_eq_zero_iff.1 e] at this
        cases this
      refine .inr (.inr ⟨h0, h1, ow_some h0, ow_some h2, ?_⟩)
      refine (ow_own hz2 h2).one ?_
      obtain ⟨p, hp, ho, hq⟩ := ow_own (f := f) hz h0
      refine ⟨p, ?_, ho, fun q hq2 => hq q ?_⟩
      · obtain ⟨h3, h4⟩ := mem_pts.1 hp
        exact mem_pts.2 ⟨mem_wout.2 ⟨h3, fun e => h1 (ho.trans e)⟩, h4⟩
      · obtain ⟨h3, h4⟩ := mem_pts.1 hq2
        exact mem_pts.2 ⟨(mem_wout.1 h3).1, h4⟩
end Go.Proofs.Ytbjepnneklnenaa.Rg

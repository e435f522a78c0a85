/- A bag of the call's own: what each call does to its flights; the chapter's example; a bag that is none. -/
import Derived.Test.YthgkcjcmliaanaaBgH
set_option linter.unusedVariables false
set_option linter.unusedSimpArgs false
namespace Go.Proofs.Ythgkcjcmliaanaa.Bg
open Go.RowKit Go.Proofs.Ythgkcjcmliaanaa.Base Go.Proofs.Ythgkcjcmliaanaa.Rws Go.Proofs.YthgkcjcmliaanaaW.PrintWords Go.Proofs.YthgkcjcmliaanaaW.PrintMore
attribute [local go_sem] max2_mx min2_mn max_two min_two max_three min_three max_four min_four

/-- A bag's flights, and how many were lost. -/
structure Bs where
  L : List Fl
  lost : Int

def sendM (σ : Bs) (x : Fl) : Int × Bs := if 256 ≤ σ.L.length then (6, ⟨σ.L, σ.lost + 1⟩) else (0, ⟨σ.L ++ [x], σ.lost⟩)
def takeM (σ : Bs) (k : Int) : Bs := if (lookF σ.L k).2 = 0 then ⟨σ.L.take k.toNat ++ σ.L.drop (k.toNat + 1), σ.lost⟩ else σ
def twiceM (σ : Bs) (k : Int) : Int × Bs := if (lookF σ.L k).2 = 0 then sendM σ (lookF σ.L k).1 else ((lookF σ.L k).2, σ)
def hurtM (σ : Bs) (k a b : Int) : Int × Bs :=
  if (lookF σ.L k).2 = 0 then
    if hurtE (lookF σ.L k).1 a b = 0 then (0, ⟨σ.L.set k.toNat ⟨(lookF σ.L k).1.f, (lookF σ.L k).1.t, chgB (lookF σ.L k).1.s a.toNat b, true⟩, σ.lost⟩) else (hurtE (lookF σ.L k).1 a b, σ)
  else ((lookF σ.L k).2, σ)

/-- Not too many, not too long. -/
structure Ok (σ : Bs) : Prop where
  len : σ.L.length ≤ 256
  lost0 : 0 ≤ σ.lost
  lost1 : σ.lost ≤ 100000
  txt : ∀ x ∈ σ.L, x.s.size ≤ 100000

theorem lookF_cases (L : List Fl) (k : Int) : (∃ x, 0 ≤ k ∧ L[k.toNat]? = some x ∧ lookF L k = (x, 0)) ∨ lookF L k = (fl0, 7) := by
  unfold lookF
  by_cases h : k < 0
  · exact .inr (if_pos h)
  · rw [if_neg h]
    cases hx : L[k.toNat]? with
    | none => exact .inr rfl
    | some x => exact .inl ⟨x, by omega, rfl, rfl⟩

def Bo (w : World) (B g : Nat) (σ : Bs) : Prop := B ≤ g ∧ ∃ v, BG w g v σ.lost ∧ Fls w (fun k => B ≤ k) v σ.L

section
variable {w : World} {B g : Nat} {σ : Bs}

theorem Bo.lt (h : Bo w B g σ) : B ≤ w.heap.size := by
  obtain ⟨hg, v, hb, _⟩ := h
  have := blk_lt hb
  omega

theorem Bo.only {w' : World} {S : Nat → Prop} (h : Bo w B g σ) (k : Only S w w') (hS : ∀ i, S i → i < B) : Bo w' B g σ := by
  obtain ⟨hg, v, hb, hl⟩ := h
  exact ⟨hg, v, k.blk hb (fun e => by have := hS _ e; omega), Row.only hl k (fun i hi e => by have := (Row.own hl hi).1; have := hS _ e; omega)⟩

theorem Bo.only0 {w' : World} (h : Bo w B g σ) (k : Only (fun _ => False) w w') : Bo w' B g σ := h.only k (fun _ h => h.elim)

theorem new_o (w : World) : Calls Try.prog 7 #[] w fun e w' => e = .returned (.pointer (some ⟨w.heap.size, 0, none⟩)) ∧ Bo w' w.heap.size w.heap.size ⟨[], 0⟩ ∧ Only (fun _ => False) w w' :=
  (new_p w).mono fun e w' ⟨he, hb, ho⟩ => ⟨he, ⟨Nat.le_refl _, _, hb, Row.nil 4 29 w' _⟩, ho⟩

theorem send_o (h : Bo w B g σ) (hO : Ok σ) (x : Fl) :
    Calls Try.prog 8 #[.pointer (some ⟨g, 0, none⟩), x.v] w fun e w' => e = .returned (.int .i64 (sendM σ x).1) ∧ Bo w' B g (sendM σ x).2 ∧ Only (fun k => B ≤ k) w w' := by
  have hlt := h.lt
  obtain ⟨hg, v, hb, hl⟩ := h
  unfold sendM
  by_cases hf : 256 ≤ σ.L.length
  · rw [if_pos hf]
    refine (send_full w hb hl hf ⟨hO.lost0, hO.lost1⟩ x).mono ?_
    rintro e w' ⟨rfl, hb', ho⟩
    exact ⟨rfl, ⟨hg, v, hb', Row.only hl ho (fun i hi e => Fls.ne hl hb (by decide) (by rw [hi, e]))⟩, ho.mono (fun k e => e ▸ hg)⟩
  · rw [if_neg hf]
    refine (send_ok w hb hl (by omega) (fun k hk => by omega) x).mono ?_
    rintro e w' ⟨rfl, v', hb', hl', ho⟩
    exact ⟨rfl, ⟨hg, v', hb', hl'⟩, ho.mono (fun k hk => hk.elim (fun e => e ▸ hg) (fun e => (Row.own hl e).1))⟩

theorem look_o (h : Bo w B g σ) (k : Int) :
    Calls Try.prog 13 #[.pointer (some ⟨g, 0, none⟩), .int .i64 k] w fun e w' => e = .returned (.tuple #[(lookF σ.L k).1.v, .int .i64 (lookF σ.L k).2]) ∧ Bo w' B g σ ∧ Only (fun k => B ≤ k) w w' := by
  have h' := h
  obtain ⟨hg, v, hb, hl⟩ := h
  exact (look_p w hb hl k).mono fun e w' ⟨he, ho⟩ => ⟨he, h'.only0 ho, ho.mono (fun _ h => h.elim)⟩

theorem take_o (h : Bo w B g σ) (hO : Ok σ) (k : Int) :
    Calls Try.prog 10 #[.pointer (some ⟨g, 0, none⟩), .int .i64 k] w fun e w' => e = .returned (.tuple #[(lookF σ.L k).1.v, .int .i64 (lookF σ.L k).2]) ∧ Bo w' B g (takeM σ k) ∧ Only (fun k => B ≤ k) w w' := by
  have h' := h
  have hlt := h.lt
  obtain ⟨hg, v, hb, hl⟩ := h
  unfold takeM
  rcases lookF_cases σ.L k with ⟨x, hk, hx, he⟩ | he
  · rw [he, if_pos rfl]
    obtain ⟨k, rfl⟩ := Int.eq_ofNat_of_zero_le hk
    rw [Int.toNat_natCast] at hx ⊢
    refine (take_ok w hb hl (by have := hO.len; omega) k hx).mono ?_
    rintro e w' ⟨rfl, v', hb', hl', ho⟩
    exact ⟨rfl, ⟨hg, v', hb', hl'.to (fun i hi => by have := (Row.own hl' hi).1; omega)⟩, ho.mono (fun k e => e ▸ hg)⟩
  · rw [he, if_neg (by decide)]
    refine (take_no (.pointer (some ⟨g, 0, none⟩)) k 7 (.inr rfl) w fl0 (fun w1 ho => look_is w1 (ho.blk hb (fun h => h)) (Row.only hl ho (fun _ _ h => h)) k he)).mono ?_
    rintro e w' ⟨rfl, ho⟩
    exact ⟨rfl, h'.only0 ho, ho.mono (fun _ h => h.elim)⟩

theorem twice_o (h : Bo w B g σ) (hO : Ok σ) (k : Int) :
    Calls Try.prog 9 #[.pointer (some ⟨g, 0, none⟩), .int .i64 k] w fun e w' => e = .returned (.int .i64 (twiceM σ k).1) ∧ Bo w' B g (twiceM σ k).2 ∧ Only (fun k => B ≤ k) w w' := by
  have h' := h
  have hlt := h.lt
  obtain ⟨hg, v, hb, hl⟩ := h
  unfold twiceM sendM
  rcases lookF_cases σ.L k with ⟨x, hk, hx, he⟩ | he
  · rw [he, if_pos rfl]
    by_cases hf : 256 ≤ σ.L.length
    · rw [if_pos hf]
      refine (twice_full w hb hl hf ⟨hO.lost0, hO.lost1⟩ k he).mono ?_
      rintro e w' ⟨rfl, hb', ho⟩
      exact ⟨rfl, ⟨hg, v, hb', Row.only hl ho (fun i hi e => Fls.ne hl hb (by decide) (by rw [hi, e]))⟩, ho.mono (fun k e => e ▸ hg)⟩
    · rw [if_neg hf]
      refine (twice_ok w hb hl (by omega) (fun k hk => by omega) k he).mono ?_
      rintro e w' ⟨rfl, v', hb', hl', ho⟩
      exact ⟨rfl, ⟨hg, v', hb', hl'⟩, ho.mono (fun k hk => hk.elim (fun e => e ▸ hg) (fun e => (Row.own hl e).1))⟩
  · rw [he, if_neg (by decide)]
    refine (twice_no w hb hl k he).mono ?_
    rintro e w' ⟨rfl, ho⟩
    exact ⟨rfl, h'.only0 ho, ho.mono (fun _ h => h.elim)⟩

theorem hurt_o (h : Bo w B g σ) (hO : Ok σ) (k a b : Int) :
    Calls Try.prog 11 #[.pointer (some ⟨g, 0, none⟩), .int .i64 k, .int .i64 a, .int .i64 b] w fun e w' => e = .returned (.int .i64 (hurtM σ k a b).1) ∧ Bo w' B g (hurtM σ k a b).2 ∧ Only (fun k => B ≤ k) w w' := by
  have h' := h
  have hlt := h.lt
  obtain ⟨hg, v, hb, hl⟩ := h
  unfold hurtM
  rcases lookF_cases σ.L k with ⟨x, hk, hx, he⟩ | he
  · have hsz := hO.txt x (List.mem_of_getElem? hx)
    by_cases hE : hurtE x a b = 0
    · rw [he, if_pos rfl, if_pos hE]
      obtain ⟨k, rfl⟩ := Int.eq_ofNat_of_zero_le hk
      obtain ⟨xf, xt, xs, xh⟩ := x
      unfold hurtE at hE
      simp only at hE hsz
      cases xh
      · simp only [Bool.false_eq_true, if_false] at hE
        by_cases hc : a < 0 ∨ (xs.size : Int) ≤ a ∨ b < 1 ∨ 255 < b
        · rw [if_pos hc] at hE
          cases hE
        · obtain ⟨a, rfl⟩ := Int.eq_ofNat_of_zero_le (by omega : 0 ≤ a)
          rw [Int.toNat_natCast] at hx
          refine (hurt_ok w hb hl (by have := hO.len; omega) k a b hx (by omega) (by omega) hsz).mono ?_
          rintro e w' ⟨rfl, hb', hl', ho⟩
          exact ⟨rfl, ⟨hg, v, hb', by simpa using hl'⟩, ho.mono (fun k e => (Row.own hl e).1)⟩
      · simp at hE
    · rw [he, if_pos rfl, if_neg hE]
      refine (hurt_no w hb hl k a b he (.inr ⟨rfl, hE⟩) hsz).mono ?_
      rintro e w' ⟨rfl, ho⟩
      exact ⟨by rw [if_pos rfl], h'.only0 ho, ho.mono (fun _ h => h.elim)⟩
  · rw [he, if_neg (by decide)]
    refine (hurt_no w hb hl k a b he (.inl rfl) (by decide)).mono ?_
    rintro e w' ⟨rfl, ho⟩
    exact ⟨rfl, h'.only0 ho, ho.mono (fun _ h => h.elim)⟩

theorem len_o (h : Bo w B g σ) : Calls Try.prog 12 #[.pointer (some ⟨g, 0, none⟩)] w fun e w' => e = .returned (.int .i64 (σ.L.length : Int)) ∧ w = w' := by
  obtain ⟨hg, v, hb, hl⟩ := h
  exact len_p w hb hl

theorem lost_o (h : Bo w B g σ) : Calls Try.prog 15 #[.pointer (some ⟨g, 0, none⟩)] w fun e w' => e = .returned (.int .i64 σ.lost) ∧ w = w' := by
  obtain ⟨hg, v, hb, hl⟩ := h
  exact lost_p w hb
end

def fa : Fl := ⟨0, 0, ⟨#[97]⟩, false⟩
def fb : Fl := ⟨0, 0, ⟨#[98]⟩, false⟩
def fc : Fl := ⟨0, 0, ⟨#[99]⟩, false⟩
def fd : Fl := ⟨0, 0, chgB ⟨#[97]⟩ 0 1, true⟩

theorem ok0 : Ok ⟨[], 0⟩ := ⟨by simp, by simp, by simp, by simp⟩
theorem ok1 : Ok ⟨[fa], 0⟩ := ⟨by simp, by simp, by simp, by
  intro x hx
  simp at hx
  subst hx
  decide⟩
theorem ok2 : Ok ⟨[fa, fb], 0⟩ := ⟨by simp, by simp, by simp, by
  intro x hx
  simp at hx
  rcases hx with rfl | rfl <;> decide⟩
theorem ok3 : Ok ⟨[fa, fb, fc], 0⟩ := ⟨by simp, by simp, by simp, by
  intro x hx
  simp at hx
  rcases hx with rfl | rfl | rfl <;> decide⟩
theorem ok4 : Ok ⟨[fa, fc], 0⟩ := ⟨by simp, by simp, by simp, by
  intro x hx
  simp at hx
  rcases hx with rfl | rfl <;> decide⟩
theorem ok5 : Ok ⟨[fd, fc], 0⟩ := ⟨by simp, by simp, by simp, by
  intro x hx
  simp at hx
  rcases hx with rfl | rfl
  · simp only [fd, chgB]
    rw [strOfNums_size, chgL_len]
    decide
  · decide⟩

theorem only_new' {S : Nat → Prop} {w w' : World} (h : Only (fun k => w.heap.size ≤ k) w w') : Only S w w' :=
  ⟨h.os, h.tape, h.output, h.size, fun i hi _ => h.block i hi (by omega)⟩

section
variable {w : World} {B g : Nat}
theorem a1 (h : Bo w B g ⟨[], 0⟩) : Calls Try.prog 8 #[.pointer (some ⟨g, 0, none⟩), .agg #[.int .i64 0, .int .i64 0, .string ⟨#[97]⟩, .bool false]] w fun e w' => e = .returned (.int .i64 0) ∧ Bo w' B g ⟨[fa], 0⟩ ∧ Only (fun k => B ≤ k) w w' := send_o h ok0 fa
theorem a2 (h : Bo w B g ⟨[fa], 0⟩) : Calls Try.prog 8 #[.pointer (some ⟨g, 0, none⟩), .agg #[.int .i64 0, .int .i64 0, .string ⟨#[98]⟩, .bool false]] w fun e w' => e = .returned (.int .i64 0) ∧ Bo w' B g ⟨[fa, fb], 0⟩ ∧ Only (fun k => B ≤ k) w w' := send_o h ok1 fb
theorem a3 (h : Bo w B g ⟨[fa, fb], 0⟩) : Calls Try.prog 8 #[.pointer (some ⟨g, 0, none⟩), .agg #[.int .i64 0, .int .i64 0, .string ⟨#[99]⟩, .bool false]] w fun e w' => e = .returned (.int .i64 0) ∧ Bo w' B g ⟨[fa, fb, fc], 0⟩ ∧ Only (fun k => B ≤ k) w w' := send_o h ok2 fc
theorem a4 (h : Bo w B g ⟨[fa, fb, fc], 0⟩) : Calls Try.prog 10 #[.pointer (some ⟨g, 0, none⟩), .int .i64 1] w fun e w' => e = .returned (.tuple #[.agg #[.int .i64 0, .int .i64 0, .string ⟨#[98]⟩, .bool false], .int .i64 0]) ∧ Bo w' B g ⟨[fa, fc], 0⟩ ∧ Only (fun k => B ≤ k) w w' := take_o h ok3 1
theorem a5 (h : Bo w B g ⟨[fa, fc], 0⟩) : Calls Try.prog 11 #[.pointer (some ⟨g, 0, none⟩), .int .i64 0, .int .i64 0, .int .i64 1] w fun e w' => e = .returned (.int .i64 0) ∧ Bo w' B g ⟨[fd, fc], 0⟩ ∧ Only (fun k => B ≤ k) w w' := hurt_o h ok4 0 0 1
theorem a6 (h : Bo w B g ⟨[fd, fc], 0⟩) : Calls Try.prog 11 #[.pointer (some ⟨g, 0, none⟩), .int .i64 0, .int .i64 0, .int .i64 1] w fun e w' => e = .returned (.int .i64 8) ∧ Bo w' B g ⟨[fd, fc], 0⟩ ∧ Only (fun k => B ≤ k) w w' := hurt_o h ok5 0 0 1
theorem a7 (h : Bo w B g ⟨[fa, fc], 0⟩) : Calls Try.prog 12 #[.pointer (some ⟨g, 0, none⟩)] w fun e w' => e = .returned (.int .i64 2) ∧ w = w' := len_o h
end

set_option maxHeartbeats 2000000 in
theorem awake_p (w : World) : Calls Try.prog 6 #[] w fun e w' => e = .returned (.bool true) ∧ Only (fun _ => False) w w' := by
  go_enter Try.func6, Try.ntmps6
  go_wp2_with fail
  refine (new_o w).mono ?_
  rintro e w0 ⟨rfl, h0, o0⟩
  have H0 := Lib.hid h0
  have O0 : Hid (Only (fun k => w.heap.size ≤ k) w w0) := Lib.hid (o0.mono (fun _ h => h.elim))
  clear h0 o0
  go_wp2_with fail
  refine (a1 H0.out).mono ?_
  rintro e w1 ⟨rfl, h1, o1⟩
  have H1 := Lib.hid h1
  have O1 := Lib.hid (O0.out.trans o1)
  clear h1 o1 H0
  go_wp2_with fail
  refine (a2 H1.out).mono ?_
  rintro e w2 ⟨rfl, h2, o2⟩
  have H2 := Lib.hid h2
  have O2 := Lib.hid (O1.out.trans o2)
  clear h2 o2 H1
  go_wp2_with fail
  refine (a3 H2.out).mono ?_
  rintro e w3 ⟨rfl, h3, o3⟩
  have H3 := Lib.hid h3
  have O3 := Lib.hid (O2.out.trans o3)
  clear h3 o3 H2
  go_wp2_with fail
  refine (a4 H3.out).mono ?_
  rintro e w4 ⟨rfl, h4, o4⟩
  have O4 := Lib.hid ((O3.out.trans o4).alloc (.cells #[.int .i64 0, .int .i64 0, .string ⟨#[98]⟩, .bool false] 29))
  have H4 := Lib.hid (h4.only0 ((Only.refl _ w4).alloc (.cells #[.int .i64 0, .int .i64 0, .string ⟨#[98]⟩, .bool false] 29)))
  have HK := Lib.hid (heap_alloc_new w4 (.cells #[.int .i64 0, .int .i64 0, .string ⟨#[98]⟩, .bool false] 29))
  have hk2 : (w4.alloc (.cells #[.int .i64 0, .int .i64 0, .string ⟨#[98]⟩, .bool false] 29)).cell? ⟨w4.heap.size, 2, none⟩ = some (.string ⟨#[98]⟩) := cell_at HK.out 2 rfl
  clear h4 o4 H3
  go_wp2_with fail
  generalize w4.alloc (.cells #[.int .i64 0, .int .i64 0, .string ⟨#[98]⟩, .bool false] 29) = w5 at *
  refine (a7 H4.out).mono ?_
  rintro e w6 ⟨rfl, rfl⟩
  go_wp2_with fail
  refine (a5 H4.out).mono ?_
  rintro e w6 ⟨rfl, h6, o6⟩
  have H6 := Lib.hid h6
  have O6 := Lib.hid (O4.out.trans o6)
  clear h6 o6 hk2
  go_wp2_with fail
  refine (a6 H6.out).mono ?_
  rintro e w7 ⟨rfl, h7, o7⟩
  have O7 := Lib.hid (O6.out.trans o7)
  clear h7 o7
  go_wp2
  go_ret
  exact ⟨rfl, only_new' O7.out⟩

end Go.Proofs.Ythgkcjcmliaanaa.Bg

/- Two bags beside one another: what each call turns is of its own types. -/
import Derived.Test.YthgkcjcmliaanaaBgX
set_option linter.unusedVariables false
set_option linter.unusedSimpArgs false
namespace Go.Proofs.Ythgkcjcmliaanaa.Bg
open Go.RowKit Go.Proofs.Ythgkcjcmliaanaa.Base Go.Proofs.Ythgkcjcmliaanaa.Rws Go.Proofs.YthgkcjcmliaanaaW.PrintWords Go.Proofs.YthgkcjcmliaanaaW.PrintMore

def Ro (w : World) (B g : Nat) (σ : Bs) : Prop := B ≤ g ∧ ∃ v, RG w g v σ.lost ∧ Rfs w (fun k => B ≤ k) v σ.L
/-- Of the program's bag's types. -/
def Mb (w : World) (B k : Nat) : Prop := B ≤ k ∧ ∃ cs t, w.heap[k]? = some (.cells cs t (0, 0)) ∧ (t = 49 ∨ t = 29)
/-- Of the reference's bag's types. -/
def Mr (w : World) (B k : Nat) : Prop := B ≤ k ∧ ∃ cs t, w.heap[k]? = some (.cells cs t (0, 0)) ∧ (t = 42 ∨ t = 30)

section
variable {w : World} {B g : Nat} {σ : Bs} {v : Value} {lost : Int} {L : List Fl} {k : Nat}
theorem mb_g (hg : B ≤ g) (hb : BG w g v lost) (e : k = g) : Mb w B k := by subst e; exact ⟨hg, _, _, hb, .inl rfl⟩
theorem mr_g (hg : B ≤ g) (hb : RG w g v lost) (e : k = g) : Mr w B k := by subst e; exact ⟨hg, _, _, hb, .inl rfl⟩
theorem mb_l (h : Fls w (fun k => B ≤ k) v L) (e : v.ownBlock = some k) : Mb w B k := by
  rcases h with ⟨rfl, _⟩ | ⟨q, o, c, cells, rfl, hq, hh, _⟩
  · simp [Value.ownBlock] at e
  · simp [Value.ownBlock] at e
    subst e
    exact ⟨hq, _, _, hh, .inr rfl⟩
theorem mr_l (h : Rfs w (fun k => B ≤ k) v L) (e : v.ownBlock = some k) : Mr w B k := by
  rcases h with ⟨rfl, _⟩ | ⟨q, o, c, cells, rfl, hq, hh, _⟩
  · simp [Value.ownBlock] at e
  · simp [Value.ownBlock] at e
    subst e
    exact ⟨hq, _, _, hh, .inr rfl⟩
theorem not_mb {cs : Array Value} {t : TypeId} (h : w.heap[k]? = some (.cells cs t (0, 0))) (h1 : t ≠ 49) (h2 : t ≠ 29) : ¬ Mb w B k := by
  rintro ⟨_, ds, u, hh, hu⟩
  rw [h] at hh
  simp at hh
  rcases hu with e | e <;> simp_all
theorem not_mr {cs : Array Value} {t : TypeId} (h : w.heap[k]? = some (.cells cs t (0, 0))) (h1 : t ≠ 42) (h2 : t ≠ 30) : ¬ Mr w B k := by
  rintro ⟨_, ds, u, hh, hu⟩
  rw [h] at hh
  simp at hh
  rcases hu with e | e <;> simp_all

theorem Ro.lt (h : Ro w B g σ) : B ≤ w.heap.size := by
  obtain ⟨hg, v, hb, _⟩ := h
  have := blk_lt hb
  omega

theorem Ro.only {w' : World} {S : Nat → Prop} (h : Ro w B g σ) (k : Only S w w') (hS : ∀ i, S i → i < B) : Ro w' B g σ := by
  obtain ⟨hg, v, hb, hl⟩ := h
  exact ⟨hg, v, k.blk hb (fun e => by have := hS _ e; omega), Row.only hl k (fun i hi e => by have := (Row.own hl hi).1; have := hS _ e; omega)⟩

theorem Ro.only0 {w' : World} (h : Ro w B g σ) (k : Only (fun _ => False) w w') : Ro w' B g σ := h.only k (fun _ h => h.elim)

theorem Ro.mb {w' : World} (h : Ro w B g σ) (k : Only (Mb w B) w w') : Ro w' B g σ := by
  obtain ⟨hg, v, hb, hl⟩ := h
  refine ⟨hg, v, k.blk hb (not_mb hb (by decide) (by decide)), Row.only hl k (fun i hi => ?_)⟩
  obtain ⟨_, cs, t, hh, ht⟩ := mr_l hl hi
  rcases hl with ⟨rfl, _⟩ | ⟨q, o, c, cells, rfl, hq, hh2, _⟩
  · simp [Value.ownBlock] at hi
  · simp [Value.ownBlock] at hi
    subst hi
    exact not_mb hh2 (by decide) (by decide)

theorem Bo.mr {w' : World} (h : Bo w B g σ) (k : Only (Mr w B) w w') : Bo w' B g σ := by
  obtain ⟨hg, v, hb, hl⟩ := h
  refine ⟨hg, v, k.blk hb (not_mr hb (by decide) (by decide)), Row.only hl k (fun i hi => ?_)⟩
  rcases hl with ⟨rfl, _⟩ | ⟨q, o, c, cells, rfl, hq, hh2, _⟩
  · simp [Value.ownBlock] at hi
  · simp [Value.ownBlock] at hi
    subst hi
    exact not_mr hh2 (by decide) (by decide)

theorem look_q (h : Bo w B g σ) (k : Int) {x : Fl} {e0 : Int} (hx : lookF σ.L k = (x, e0)) :
    Calls Try.prog 13 #[.pointer (some ⟨g, 0, none⟩), .int .i64 k] w fun e w' => e = .returned (.tuple #[.agg #[.int .i64 x.f, .int .i64 x.t, .string x.s, .bool x.h], .int .i64 e0]) ∧ Only (fun _ => False) w w' := by
  obtain ⟨hg, v, hb, hl⟩ := h
  exact look_is w hb hl k hx

theorem rlook_q (h : Ro w B g σ) (k : Int) {x : Fl} {e0 : Int} (hx : lookF σ.L k = (x, e0)) :
    Calls Try.prog 22 #[.pointer (some ⟨g, 0, none⟩), .int .i64 k] w fun e w' => e = .returned (.tuple #[.agg #[.int .i64 x.f, .int .i64 x.t, .string x.s, .bool x.h], .int .i64 e0]) ∧ Only (fun _ => False) w w' := by
  obtain ⟨hg, v, hb, hl⟩ := h
  exact rlook_p w hb hl k hx

theorem send_q (h : Bo w B g σ) (hO : Ok σ) (x : Fl) :
    Calls Try.prog 8 #[.pointer (some ⟨g, 0, none⟩), x.v] w fun e w' => e = .returned (.int .i64 (sendM σ x).1) ∧ Bo w' B g (sendM σ x).2 ∧ Only (Mb w B) w w' := by
  have hlt := h.lt
  obtain ⟨hg, v, hb, hl⟩ := h
  unfold sendM
  by_cases hf : 256 ≤ σ.L.length
  · rw [if_pos hf]
    refine (send_full w hb hl hf ⟨hO.lost0, hO.lost1⟩ x).mono ?_
    rintro e w' ⟨rfl, hb', ho⟩
    exact ⟨rfl, ⟨hg, v, hb', Row.only hl ho (fun i hi e => Fls.ne hl hb (by decide) (by rw [hi, e]))⟩, ho.mono (fun k e => mb_g hg hb e)⟩
  · rw [if_neg hf]
    refine (send_ok w hb hl (by omega) (fun k hk => by omega) x).mono ?_
    rintro e w' ⟨rfl, v', hb', hl', ho⟩
    exact ⟨rfl, ⟨hg, v', hb', hl'⟩, ho.mono (fun k hk => hk.elim (mb_g hg hb) (mb_l hl))⟩

theorem take_q (h : Bo w B g σ) (hO : Ok σ) (k : Int) :
    Calls Try.prog 10 #[.pointer (some ⟨g, 0, none⟩), .int .i64 k] w fun e w' => e = .returned (.tuple #[(lookF σ.L k).1.v, .int .i64 (lookF σ.L k).2]) ∧ Bo w' B g (takeM σ k) ∧ Only (Mb w B) w w' := by
  have h' := h
  have hlt := h.lt
  obtain ⟨hg, v, hb, hl⟩ := h
  unfold takeM
  rcases lookF_cases σ.L k with ⟨x, hk, hx, he⟩ | he
  · rw [he, if_pos rfl]
    obtain ⟨k, rfl⟩ := Int.eq_ofNat_of_zero_le hk
    rw [Int.toNat_natCast] at hx ⊢
    refine (take_ok w hb hl (by have := hO.len; omega) k hx).mono ?_
    rintro e w' ⟨rfl, v', hb', hl', ho⟩
    exact ⟨rfl, ⟨hg, v', hb', hl'.to (fun i hi => by have := (Row.own hl' hi).1; omega)⟩, ho.mono (fun k e => mb_g hg hb e)⟩
  · rw [he, if_neg (by decide)]
    refine (take_no (.pointer (some ⟨g, 0, none⟩)) k 7 (.inr rfl) w fl0 (fun w1 ho => look_is w1 (ho.blk hb (fun h => h)) (Row.only hl ho (fun _ _ h => h)) k he)).mono ?_
    rintro e w' ⟨rfl, ho⟩
    exact ⟨rfl, h'.only0 ho, ho.mono (fun _ h => h.elim)⟩

theorem twice_q (h : Bo w B g σ) (hO : Ok σ) (k : Int) :
    Calls Try.prog 9 #[.pointer (some ⟨g, 0, none⟩), .int .i64 k] w fun e w' => e = .returned (.int .i64 (twiceM σ k).1) ∧ Bo w' B g (twiceM σ k).2 ∧ Only (Mb w B) w w' := by
  have h' := h
  have hlt := h.lt
  obtain ⟨hg, v, hb, hl⟩ := h
  unfold twiceM sendM
  rcases lookF_cases σ.L k with ⟨x, hk, hx, he⟩ | he
  · rw [he, if_pos rfl]
    by_cases hf : 256 ≤ σ.L.length
    · rw [if_pos hf]
      refine (twice_full w hb hl hf ⟨hO.lost0, hO.lost1⟩ k he).mono ?_
      rintro e w' ⟨rfl, hb', ho⟩
      exact ⟨rfl, ⟨hg, v, hb', Row.only hl ho (fun i hi e => Fls.ne hl hb (by decide) (by rw [hi, e]))⟩, ho.mono (fun k e => mb_g hg hb e)⟩
    · rw [if_neg hf]
      refine (twice_ok w hb hl (by omega) (fun k hk => by omega) k he).mono ?_
      rintro e w' ⟨rfl, v', hb', hl', ho⟩
      exact ⟨rfl, ⟨hg, v', hb', hl'⟩, ho.mono (fun k hk => hk.elim (mb_g hg hb) (mb_l hl))⟩
  · rw [he, if_neg (by decide)]
    refine (twice_no w hb hl k he).mono ?_
    rintro e w' ⟨rfl, ho⟩
    exact ⟨rfl, h'.only0 ho, ho.mono (fun _ h => h.elim)⟩

theorem hurt_q (h : Bo w B g σ) (hO : Ok σ) (k a b : Int) :
    Calls Try.prog 11 #[.pointer (some ⟨g, 0, none⟩), .int .i64 k, .int .i64 a, .int .i64 b] w fun e w' => e = .returned (.int .i64 (hurtM σ k a b).1) ∧ Bo w' B g (hurtM σ k a b).2 ∧ Only (Mb w B) w w' := by
  have h' := h
  have hlt := h.lt
  obtain ⟨hg, v, hb, hl⟩ := h
  unfold hurtM
  rcases lookF_cases σ.L k with ⟨x, hk, hx, he⟩ | he
  · have hsz := hO.txt x (List.mem_of_getElem? hx)
    by_cases hE : hurtE x a b = 0
    · rw [he, if_pos rfl, if_pos hE]
      obtain ⟨k, rfl⟩ := Int.eq_ofNat_of_zero_le hk
      obtain ⟨xf, xt, xs, xh⟩ := x
      unfold hurtE at hE
      simp only at hE hsz
      cases xh
      · simp only [Bool.false_eq_true, if_false] at hE
        by_cases hc : a < 0 ∨ (xs.size : Int) ≤ a ∨ b < 1 ∨ 255 < b
        · rw [if_pos hc] at hE
          cases hE
        · obtain ⟨a, rfl⟩ := Int.eq_ofNat_of_zero_le (by omega : 0 ≤ a)
          rw [Int.toNat_natCast] at hx
          refine (hurt_ok w hb hl (by have := hO.len; omega) k a b hx (by omega) (by omega) hsz).mono ?_
          rintro e w' ⟨rfl, hb', hl', ho⟩
          exact ⟨rfl, ⟨hg, v, hb', by simpa using hl'⟩, ho.mono (fun k e => mb_l hl e)⟩
      · simp at hE
    · rw [he, if_pos rfl, if_neg hE]
      refine (hurt_no w hb hl k a b he (.inr ⟨rfl, hE⟩) hsz).mono ?_
      rintro e w' ⟨rfl, ho⟩
      exact ⟨by rw [if_pos rfl], h'.only0 ho, ho.mono (fun _ h => h.elim)⟩
  · rw [he, if_neg (by decide)]
    refine (hurt_no w hb hl k a b he (.inl rfl) (by decide)).mono ?_
    rintro e w' ⟨rfl, ho⟩
    exact ⟨rfl, h'.only0 ho, ho.mono (fun _ h => h.elim)⟩

theorem rsend_q (h : Ro w B g σ) (hO : Ok σ) (x : Fl) :
    Calls Try.prog 18 #[.pointer (some ⟨g, 0, none⟩), x.v] w fun e w' => e = .returned (.int .i64 (sendM σ x).1) ∧ Ro w' B g (sendM σ x).2 ∧ Only (Mr w B) w w' := by
  have hlt := h.lt
  obtain ⟨hg, v, hb, hl⟩ := h
  unfold sendM
  by_cases hf : 256 ≤ σ.L.length
  · rw [if_pos hf]
    refine (rsend_full w hb hl hf ⟨hO.lost0, hO.lost1⟩ x).mono ?_
    rintro e w' ⟨rfl, hb', ho⟩
    exact ⟨rfl, ⟨hg, v, hb', Row.only hl ho (fun i hi e => Rfs.ne hl hb (by decide) (by rw [hi, e]))⟩, ho.mono (fun k e => mr_g hg hb e)⟩
  · rw [if_neg hf]
    refine (rsend_ok w hb hl (by omega) (fun k hk => by omega) x).mono ?_
    rintro e w' ⟨rfl, v', hb', hl', ho⟩
    exact ⟨rfl, ⟨hg, v', hb', hl'⟩, ho.mono (fun k hk => hk.elim (mr_g hg hb) (mr_l hl))⟩

theorem rtake_q (h : Ro w B g σ) (hO : Ok σ) (k : Int) :
    Calls Try.prog 19 #[.pointer (some ⟨g, 0, none⟩), .int .i64 k] w fun e w' => e = .returned (.tuple #[(lookF σ.L k).1.v, .int .i64 (lookF σ.L k).2]) ∧ Ro w' B g (takeM σ k) ∧ Only (Mr w B) w w' := by
  have hlt := h.lt
  obtain ⟨hg, v, hb, hl⟩ := h
  refine (rtake_p w hb hl (by have := hO.len; omega) k rfl).mono ?_
  rintro e w' ⟨rfl, v', hb', hl', ho⟩
  have he : takeM σ k = ⟨remN σ.L k σ.L.length, σ.lost⟩ := (remN_all σ.L k σ.lost).symm
  rw [he]
  exact ⟨rfl, ⟨hg, v', hb', hl'.to (fun i hi => by have := (Row.own hl' hi).1; omega)⟩, ho.mono (fun k e => mr_g hg hb e)⟩

theorem rtwice_q (h : Ro w B g σ) (hO : Ok σ) (k : Int) :
    Calls Try.prog 20 #[.pointer (some ⟨g, 0, none⟩), .int .i64 k] w fun e w' => e = .returned (.int .i64 (twiceM σ k).1) ∧ Ro w' B g (twiceM σ k).2 ∧ Only (Mr w B) w w' := by
  have h' := h
  have hlt := h.lt
  obtain ⟨hg, v, hb, hl⟩ := h
  unfold twiceM sendM
  rcases lookF_cases σ.L k with ⟨x, hk, hx, he⟩ | he
  · rw [he, if_pos rfl]
    by_cases hf : 256 ≤ σ.L.length
    · rw [if_pos hf]
      refine (rtwice_full w hb hl hf ⟨hO.lost0, hO.lost1⟩ k he).mono ?_
      rintro e w' ⟨rfl, hb', ho⟩
      exact ⟨rfl, ⟨hg, v, hb', Row.only hl ho (fun i hi e => Rfs.ne hl hb (by decide) (by rw [hi, e]))⟩, ho.mono (fun k e => mr_g hg hb e)⟩
    · rw [if_neg hf]
      refine (rtwice_ok w hb hl (by omega) (fun k hk => by omega) k he).mono ?_
      rintro e w' ⟨rfl, v', hb', hl', ho⟩
      exact ⟨rfl, ⟨hg, v', hb', hl'⟩, ho.mono (fun k hk => hk.elim (mr_g hg hb) (mr_l hl))⟩
  · rw [he, if_neg (by decide)]
    refine (rtwice_no w hb hl k he).mono ?_
    rintro e w' ⟨rfl, ho⟩
    exact ⟨rfl, h'.only0 ho, ho.mono (fun _ h => h.elim)⟩

theorem rhurt_q (h : Ro w B g σ) (hO : Ok σ) (k a b : Int) :
    Calls Try.prog 21 #[.pointer (some ⟨g, 0, none⟩), .int .i64 k, .int .i64 a, .int .i64 b] w fun e w' => e = .returned (.int .i64 (hurtM σ k a b).1) ∧ Ro w' B g (hurtM σ k a b).2 ∧ Only (Mr w B) w w' := by
  have h' := h
  have hlt := h.lt
  obtain ⟨hg, v, hb, hl⟩ := h
  unfold hurtM
  rcases lookF_cases σ.L k with ⟨x, hk, hx, he⟩ | he
  · have hsz := hO.txt x (List.mem_of_getElem? hx)
    by_cases hE : hurtE x a b = 0
    · rw [he, if_pos rfl, if_pos hE]
      obtain ⟨k, rfl⟩ := Int.eq_ofNat_of_zero_le hk
      obtain ⟨xf, xt, xs, xh⟩ := x
      unfold hurtE at hE
      simp only at hE hsz
      cases xh
      · simp only [Bool.false_eq_true, if_false] at hE
        by_cases hc : a < 0 ∨ (xs.size : Int) ≤ a ∨ b < 1 ∨ 255 < b
        · rw [if_pos hc] at hE
          cases hE
        · obtain ⟨a, rfl⟩ := Int.eq_ofNat_of_zero_le (by omega : 0 ≤ a)
          rw [Int.toNat_natCast] at hx
          refine (rhurt_ok w hb hl (by have := hO.len; omega) k a b hx (by omega) (by omega) hsz).mono ?_
          rintro e w' ⟨rfl, v', hb', hl', ho⟩
          exact ⟨rfl, ⟨hg, v', hb', by simpa [Rfs] using hl'.to (Q := fun k => B ≤ k) (fun i hi => by have := (Row.own hl' hi).1; omega)⟩, ho.mono (fun k e => mr_g hg hb e)⟩
      · simp at hE
    · rw [he, if_pos rfl, if_neg hE]
      refine (rhurt_no w hb hl k a b he (.inr ⟨rfl, hE⟩) hsz).mono ?_
      rintro e w' ⟨rfl, ho⟩
      exact ⟨by rw [if_pos rfl], h'.only0 ho, ho.mono (fun _ h => h.elim)⟩
  · rw [he, if_neg (by decide)]
    refine (rhurt_no w hb hl k a b he (.inl rfl) (by decide)).mono ?_
    rintro e w' ⟨rfl, ho⟩
    exact ⟨rfl, h'.only0 ho, ho.mono (fun _ h => h.elim)⟩

end

theorem same_p (x : Fl) (w : World) : Calls Try.prog 16 #[.agg #[.int .i64 x.f, .int .i64 x.t, .string x.s, .bool x.h], .agg #[.int .i64 x.f, .int .i64 x.t, .string x.s, .bool x.h]] w fun e w' => e = .returned (.bool true) ∧ Only (fun _ => False) w w' :=
  (Go.Proofs.Ythgkcjcmliaanaa.PBagPlays.hourglasslaw13_same.calls x.f x.t x.s x.h x.f x.t x.s x.h true w (by simp [Go.Proofs.Ythgkcjcmliaanaa.PBagPlays.hourglasslaw13_same.f])).mono fun e w' ⟨he, hb⟩ => ⟨he, Only.of_below hb⟩

end Go.Proofs.Ythgkcjcmliaanaa.Bg

/- What a breaker does, in plain words, and its contracts by them. -/
import Derived.Test.YtocbnfpnbgpfjaaBrkD
set_option linter.unusedVariables false
set_option linter.unusedSimpArgs false
namespace Go.Proofs.Ytocbnfpnbgpfjaa.Brk
open Go.RowKit Go.Proofs.Ytocbnfpnbgpfjaa.Base Go.Proofs.YtocbnfpnbgpfjaaW.PrintWords Go.Proofs.YtocbnfpnbgpfjaaW.PrintMore

/-- A breaker's state: which, time, until, results, let through, good. -/
structure St where
  st : Int
  now : Int
  un : Int
  l : List Bool
  out : Int
  good : Int

structure Inv (s p : Int) (σ : St) : Prop where
  len : (σ.l.length : Int) ≤ s
  out0 : 0 ≤ σ.out
  out1 : σ.out ≤ p
  good0 : 0 ≤ σ.good
  good1 : σ.good < p
  st : σ.st = 0 ∨ σ.st = 1 ∨ σ.st = 2

structure Cfg (s f r p : Int) : Prop where
  s1 : 1 ≤ s
  s2 : s ≤ 64
  f1 : 1 ≤ f
  f2 : f ≤ s
  r1 : 1 ≤ r
  r2 : r ≤ 1000000
  p1 : 1 ≤ p
  p2 : p ≤ 16

def allowM (p : Int) (σ : St) (t : Int) : Bool × St :=
  if σ.st = 0 then (true, ⟨0, mx σ.now (cl t), σ.un, σ.l, σ.out, σ.good⟩)
  else if σ.st = 1 then
    if mx σ.now (cl t) < σ.un then (false, ⟨1, mx σ.now (cl t), σ.un, σ.l, σ.out, σ.good⟩) else (true, ⟨2, mx σ.now (cl t), σ.un, [], 1, 0⟩)
  else if p ≤ σ.out then (false, ⟨2, mx σ.now (cl t), σ.un, σ.l, σ.out, σ.good⟩) else (true, ⟨2, mx σ.now (cl t), σ.un, σ.l, σ.out + 1, σ.good⟩)

def openM (r n : Int) : St := ⟨1, n, ad n r, [], 0, 0⟩

def doneM (s f r p : Int) (σ : St) (t : Int) (b : Bool) : St :=
  if σ.st = 0 then
    if bads (lastOf s σ.l b) < f then ⟨0, mx σ.now (cl t), σ.un, lastOf s σ.l b, σ.out, σ.good⟩ else openM r (mx σ.now (cl t))
  else if σ.st = 1 then ⟨1, mx σ.now (cl t), σ.un, σ.l, σ.out, σ.good⟩
  else if b then
    if p ≤ σ.good + 1 then ⟨0, mx σ.now (cl t), σ.un, [], 0, 0⟩ else ⟨2, mx σ.now (cl t), σ.un, σ.l, σ.out, σ.good + 1⟩
  else openM r (mx σ.now (cl t))

theorem lastOf_len (s : Int) (l : List Bool) (b : Bool) (hs : 1 ≤ s) (hl : (l.length : Int) ≤ s) : ((lastOf s l b).length : Int) ≤ s := by
  unfold lastOf
  rw [List.length_drop, List.length_append, List.length_singleton]
  rcases mx_cases ((l.length : Int) + 1 - s) 0 with h | h <;> omega

theorem allowM_inv {s f r p : Int} {σ : St} (hc : Cfg s f r p) (h : Inv s p σ) (t : Int) : Inv s p (allowM p σ t).2 := by
  have := hc.s1; have := hc.p1; have := h.len; have := h.out0; have := h.out1; have := h.good0; have := h.good1
  unfold allowM
  repeat' split
  all_goals constructor <;> simp <;> omega

theorem doneM_inv {s f r p : Int} {σ : St} (hc : Cfg s f r p) (h : Inv s p σ) (t : Int) (b : Bool) : Inv s p (doneM s f r p σ t b) := by
  have := hc.s1; have := hc.p1; have := h.len; have := h.out0; have := h.out1; have := h.good0; have := h.good1
  have := lastOf_len s σ.l b hc.s1 h.len
  unfold doneM openM
  repeat' split
  all_goals constructor <;> simp <;> omega

def BK (w : World) (base : Nat → Prop) (g : Nat) (s f r p : Int) (σ : St) (v : Value) : Prop :=
  B46 w g s f r p σ.st σ.now σ.un v σ.out σ.good ∧ LastB w base v σ.l

/-- What a call of a breaker leaves. -/
def Out (base : Nat → Prop) (g : Nat) (s f r p : Int) (v : Value) (w : World) (u : Value) (σ : St) (e : Ending) (w' : World) : Prop :=
  e = .returned u ∧ ∃ v', BK w' base g s f r p σ v' ∧ Only (fun k => k = g ∨ v.ownBlock = some k) w w'

theorem allow_m {w : World} {base : Nat → Prop} {g : Nat} {s f r p : Int} {σ : St} {v : Value} (hb : BK w base g s f r p σ v) (hI : Inv s p σ) (hc : Cfg s f r p) (t : Int) :
    Calls Try.prog 10 #[.pointer (some ⟨g, 0, none⟩), .int .i64 t] w (Out base g s f r p v w (.bool (allowM p σ t).1) (allowM p σ t).2) := by
  obtain ⟨st, now, un, l, out, good⟩ := σ
  obtain ⟨hb1, hb2⟩ := hb
  have h3 := hI.st
  have hne := own_ne hb2 hb1
  have ho0 : 0 ≤ out := hI.out0
  simp only at h3 hb1 hb2
  rcases h3 with rfl | rfl | rfl
  · refine (allow_0 g s f r p now un v out good t w hb1 hc.s1).mono ?_
    rintro e w' ⟨rfl, hb', ho⟩
    exact ⟨by simp [allowM], v, ⟨by simpa [allowM] using hb', by simpa [allowM] using hb2.only hne ho⟩, ho.mono (fun _ h => .inl h)⟩
  · by_cases hu : mx now (cl t) < un
    · refine (allow_1 g s f r p now un v out good t w hb1 hc.s1 hu).mono ?_
      rintro e w' ⟨rfl, hb', ho⟩
      exact ⟨by simp [allowM, hu], v, ⟨by simpa [allowM, hu] using hb', by simpa [allowM, hu] using hb2.only hne ho⟩, ho.mono (fun _ h => .inl h)⟩
    · refine (allow_1yes g s f r p now un v out good t w hb1 hc.s1 hu hc.p1).mono ?_
      rintro e w' ⟨rfl, hb', ho⟩
      exact ⟨by simp [allowM, hu], .slice none 0 0, ⟨by simpa [allowM, hu] using hb', by simpa [allowM, hu] using LastB.nil w' base⟩, ho.mono (fun _ h => .inl h)⟩
  · by_cases hu : p ≤ out
    · refine (allow_2no g s f r p now un v out good t w hb1 hc.s1 hu).mono ?_
      rintro e w' ⟨rfl, hb', ho⟩
      exact ⟨by simp [allowM, hu], v, ⟨by simpa [allowM, hu] using hb', by simpa [allowM, hu] using hb2.only hne ho⟩, ho.mono (fun _ h => .inl h)⟩
    · refine (allow_2yes g s f r p now un v out good t w hb1 hc.s1 (by omega) ho0 hc.p2).mono ?_
      rintro e w' ⟨rfl, hb', ho⟩
      exact ⟨by simp [allowM, hu], v, ⟨by simpa [allowM, hu] using hb', by simpa [allowM, hu] using hb2.only hne ho⟩, ho.mono (fun _ h => .inl h)⟩

theorem done_m {w : World} {base : Nat → Prop} {g : Nat} {s f r p : Int} {σ : St} {v : Value} (hb : BK w base g s f r p σ v) (hI : Inv s p σ) (hc : Cfg s f r p) (hbase : ∀ k, w.heap.size ≤ k → base k) (t : Int) (b : Bool) :
    Calls Try.prog 13 #[.pointer (some ⟨g, 0, none⟩), .int .i64 t, .bool b] w (Out base g s f r p v w (.int .i64 0) (doneM s f r p σ t b)) := by
  obtain ⟨st, now, un, l, out, good⟩ := σ
  obtain ⟨hb1, hb2⟩ := hb
  have h3 := hI.st
  have hne := own_ne hb2 hb1
  have hl : (l.length : Int) ≤ s := hI.len
  have hg0 : 0 ≤ good := hI.good0
  have hg1 : good < p := hI.good1
  have hp2 := hc.p2
  simp only at h3 hb1 hb2
  rcases h3 with rfl | rfl | rfl
  · refine (done_0 g s f r p now un v l out good t b w base hb1 hb2 ⟨hc.s1, hc.s2⟩ hl hbase).mono ?_
    rintro e w' ⟨rfl, ho, ⟨hlt, v', hb', hl'⟩ | ⟨hge, hb'⟩⟩
    · exact ⟨rfl, v', ⟨by simpa [doneM, hlt] using hb', by simpa [doneM, hlt] using hl'⟩, ho⟩
    · have hlt : ¬ bads (lastOf s l b) < f := by omega
      exact ⟨rfl, .slice none 0 0, ⟨by simpa [doneM, hlt, openM] using hb', by simpa [doneM, hlt, openM] using LastB.nil w' base⟩, ho⟩
  · refine (done_1 g s f r p now un v out good t b w hb1 hc.s1).mono ?_
    rintro e w' ⟨rfl, hb', ho⟩
    exact ⟨rfl, v, ⟨by simpa [doneM] using hb', by simpa [doneM] using hb2.only hne ho⟩, ho.mono (fun _ h => .inl h)⟩
  · cases b
    · refine (done_2bad g s f r p now un v out good t w hb1 hc.s1).mono ?_
      rintro e w' ⟨rfl, hb', ho⟩
      exact ⟨rfl, .slice none 0 0, ⟨by simpa [doneM, openM] using hb', by simpa [doneM, openM] using LastB.nil w' base⟩, ho.mono (fun _ h => .inl h)⟩
    · refine (done_2good g s f r p now un v out good t w hb1 hc.s1 ⟨hg0, by omega⟩).mono ?_
      rintro e w' ⟨rfl, ho, hb'⟩
      by_cases hp : p ≤ good + 1
      · rw [if_pos hp] at hb'
        exact ⟨rfl, .slice none 0 0, ⟨by simpa [doneM, hp] using hb', by simpa [doneM, hp] using LastB.nil w' base⟩, ho.mono (fun _ h => .inl h)⟩
      · rw [if_neg hp] at hb'
        exact ⟨rfl, v, ⟨by simpa [doneM, hp] using hb', by simpa [doneM, hp] using hb2.only hne ho⟩, ho.mono (fun _ h => .inl h)⟩

theorem state_m {w : World} {base : Nat → Prop} {g : Nat} {s f r p : Int} {σ : St} {v : Value} (hb : BK w base g s f r p σ v) (hc : Cfg s f r p) :
    Calls Try.prog 14 #[.pointer (some ⟨g, 0, none⟩)] w fun e w' => e = .returned (.int .i64 σ.st) ∧ w = w' :=
  state_p _ _ _ _ _ _ _ _ _ _ _ _ hb.1 hc.s1

theorem LastB.own {w : World} {base : Nat → Prop} {v : Value} {l : List Bool} (h : LastB w base v l) {k : Nat} (hk : v.ownBlock = some k) : base k ∧ k < w.heap.size := by
  rcases h with ⟨rfl, rfl⟩ | ⟨q, o, c, cells, rfl, hq, hh, h1, h2, h3⟩
  · simp [Value.ownBlock] at hk
  · simp [Value.ownBlock] at hk
    subst hk
    exact ⟨hq, blk_lt hh⟩

theorem LastB.to {w : World} {base base' : Nat → Prop} {v : Value} {l : List Bool} (h : LastB w base v l) (hs : ∀ k, v.ownBlock = some k → base' k) : LastB w base' v l := by
  rcases h with ⟨rfl, rfl⟩ | ⟨q, o, c, cells, rfl, hq, hh, h1, h2, h3⟩
  · exact .inl ⟨rfl, rfl⟩
  · exact .inr ⟨q, o, c, cells, rfl, hs q (by simp [Value.ownBlock]), hh, h1, h2, h3⟩

/-- A breaker of the call's own. -/
def Ow (w : World) (B g : Nat) (s f r p : Int) (σ : St) : Prop := B ≤ g ∧ ∃ v, BK w (fun k => B ≤ k) g s f r p σ v

section
variable {w : World} {B g : Nat} {s f r p : Int} {σ : St}

theorem Ow.lt (h : Ow w B g s f r p σ) : g < w.heap.size := by
  obtain ⟨hB, v, hb, hl⟩ := h
  exact blk_lt hb

theorem allow_o (h : Ow w B g s f r p σ) (hI : Inv s p σ) (hc : Cfg s f r p) (t : Int) :
    Calls Try.prog 10 #[.pointer (some ⟨g, 0, none⟩), .int .i64 t] w fun e w' => e = .returned (.bool (allowM p σ t).1) ∧ Ow w' B g s f r p (allowM p σ t).2 ∧ Only (fun k => B ≤ k) w w' := by
  obtain ⟨hB, v, hb⟩ := h
  refine (allow_m hb hI hc t).mono ?_
  rintro e w' ⟨rfl, v', hb', ho⟩
  exact ⟨rfl, ⟨hB, v', hb'⟩, ho.mono (fun k hk => hk.elim (fun e => e ▸ hB) (fun e => (hb.2.own e).1))⟩

theorem done_o (h : Ow w B g s f r p σ) (hI : Inv s p σ) (hc : Cfg s f r p) (t : Int) (b : Bool) :
    Calls Try.prog 13 #[.pointer (some ⟨g, 0, none⟩), .int .i64 t, .bool b] w fun e w' => e = .returned (.int .i64 0) ∧ Ow w' B g s f r p (doneM s f r p σ t b) ∧ Only (fun k => B ≤ k) w w' := by
  have hlt := h.lt
  obtain ⟨hB, v, hb⟩ := h
  refine (done_m hb hI hc (fun k hk => by omega) t b).mono ?_
  rintro e w' ⟨rfl, v', hb', ho⟩
  exact ⟨rfl, ⟨hB, v', hb'⟩, ho.mono (fun k hk => hk.elim (fun e => e ▸ hB) (fun e => (hb.2.own e).1))⟩

theorem state_o (h : Ow w B g s f r p σ) (hc : Cfg s f r p) :
    Calls Try.prog 14 #[.pointer (some ⟨g, 0, none⟩)] w fun e w' => e = .returned (.int .i64 σ.st) ∧ w = w' := by
  obtain ⟨hB, v, hb⟩ := h
  exact state_m hb hc
end

theorem new_o (w : World) {s f r p : Int} (hc : Cfg s f r p) :
    Calls Try.prog 7 #[.int .i64 s, .int .i64 f, .int .i64 r, .int .i64 p] w fun e w' => e = .returned (.tuple #[.pointer (some ⟨w.heap.size, 0, none⟩), .int .i64 0]) ∧ Ow w' w.heap.size w.heap.size s f r p ⟨0, 0, 0, [], 0, 0⟩ ∧ Only (fun _ => False) w w' := by
  refine (new_ok s f r p w ⟨hc.s1, hc.s2⟩ ⟨hc.f1, hc.f2⟩ ⟨hc.r1, hc.r2⟩ ⟨hc.p1, hc.p2⟩).mono ?_
  rintro e w' ⟨rfl, hb, ho⟩
  exact ⟨rfl, ⟨Nat.le_refl _, _, hb, LastB.nil _ _⟩, ho⟩

theorem inv_new {s f r p : Int} (hc : Cfg s f r p) : Inv s p ⟨0, 0, 0, [], 0, 0⟩ := by
  have := hc.s1; have := hc.p1
  constructor <;> simp <;> omega

end Go.Proofs.Ytocbnfpnbgpfjaa.Brk

/- The breaker beside the reference's: what they have in common, and how each call keeps it. -/
import Derived.Test.YtocbnfpnbgpfjaaBrkG
set_option linter.unusedVariables false
set_option linter.unusedSimpArgs false
namespace Go.Proofs.Ytocbnfpnbgpfjaa.Brk
open Go.RowKit Go.Proofs.Ytocbnfpnbgpfjaa.Base Go.Proofs.YtocbnfpnbgpfjaaW.PrintWords Go.Proofs.YtocbnfpnbgpfjaaW.PrintMore

def allowR (p : Int) (ρ : St) (t : Int) : Bool × St :=
  if ρ.st = 0 then (true, ⟨0, mx ρ.now (cl t), ρ.un, ρ.l, ρ.out, ρ.good⟩)
  else if ρ.st = 1 then
    if mx ρ.now (cl t) < ρ.un then (false, ⟨1, mx ρ.now (cl t), ρ.un, ρ.l, ρ.out, ρ.good⟩) else (true, ⟨2, mx ρ.now (cl t), ρ.un, ρ.l, 1, 0⟩)
  else if p ≤ ρ.out then (false, ⟨2, mx ρ.now (cl t), ρ.un, ρ.l, ρ.out, ρ.good⟩) else (true, ⟨2, mx ρ.now (cl t), ρ.un, ρ.l, ρ.out + 1, ρ.good⟩)

def doneR (s f r p : Int) (ρ : St) (t : Int) (b : Bool) : St :=
  if ρ.st = 0 then
    if bads (lastS s (ρ.l ++ [b])) < f then ⟨0, mx ρ.now (cl t), ρ.un, ρ.l ++ [b], ρ.out, ρ.good⟩ else ⟨1, mx ρ.now (cl t), ad (mx ρ.now (cl t)) r, [], ρ.out, ρ.good⟩
  else if ρ.st = 1 then ⟨1, mx ρ.now (cl t), ρ.un, ρ.l, ρ.out, ρ.good⟩
  else if b then
    if ρ.good + 1 = p then ⟨0, mx ρ.now (cl t), ρ.un, [], ρ.out, ρ.good + 1⟩ else ⟨2, mx ρ.now (cl t), ρ.un, ρ.l, ρ.out, ρ.good + 1⟩
  else ⟨1, mx ρ.now (cl t), ad (mx ρ.now (cl t)) r, [], ρ.out, ρ.good⟩

structure Rel (s : Int) (σ ρ : St) : Prop where
  st : ρ.st = σ.st
  now : ρ.now = σ.now
  un : ρ.un = σ.un
  l : σ.l = lastS s ρ.l
  e : σ.st ≠ 0 → ρ.l = []
  half : σ.st = 2 → ρ.out = σ.out ∧ ρ.good = σ.good

theorem lastS_nil (s : Int) : lastS s [] = [] := by simp [lastS]

theorem rel_allow {s f r p : Int} {σ ρ : St} (hc : Cfg s f r p) (hI : Inv s p σ) (h : Rel s σ ρ) (t : Int) : (allowR p ρ t).1 = (allowM p σ t).1 ∧ Rel s (allowM p σ t).2 (allowR p ρ t).2 ∧ (allowR p ρ t).2.l.length ≤ ρ.l.length := by
  obtain ⟨h1, h2, h3, h4, h5, h6⟩ := h
  have hst := hI.st
  unfold allowM allowR
  rw [h1, h2, h3]
  by_cases a0 : σ.st = 0
  · rw [if_pos a0, if_pos a0]
    exact ⟨rfl, ⟨rfl, rfl, rfl, h4, by simp, by simp⟩, by simp⟩
  · rw [if_neg a0, if_neg a0]
    by_cases a1 : σ.st = 1
    · rw [if_pos a1, if_pos a1]
      have he := h5 a0
      split
      · exact ⟨rfl, ⟨rfl, rfl, rfl, h4, fun _ => he, by simp⟩, by simp⟩
      · exact ⟨rfl, ⟨rfl, rfl, rfl, by simp only [he, lastS_nil], fun _ => he, fun _ => ⟨rfl, rfl⟩⟩, by simp⟩
    · rw [if_neg a1, if_neg a1]
      have a2 : σ.st = 2 := by omega
      obtain ⟨h7, h8⟩ := h6 a2
      have he := h5 a0
      rw [h7, h8]
      split
      · exact ⟨rfl, ⟨rfl, rfl, rfl, h4, fun _ => he, fun _ => ⟨rfl, rfl⟩⟩, by simp⟩
      · exact ⟨rfl, ⟨rfl, rfl, rfl, h4, fun _ => he, fun _ => ⟨rfl, rfl⟩⟩, by simp⟩

theorem rel_done {s f r p : Int} {σ ρ : St} (hc : Cfg s f r p) (hI : Inv s p σ) (h : Rel s σ ρ) (t : Int) (b : Bool) : Rel s (doneM s f r p σ t b) (doneR s f r p ρ t b) ∧ (doneR s f r p ρ t b).l.length ≤ ρ.l.length + 1 := by
  obtain ⟨h1, h2, h3, h4, h5, h6⟩ := h
  have hst := hI.st
  have hg1 := hI.good1
  unfold doneM doneR openM
  rw [h1, h2, h3]
  by_cases a0 : σ.st = 0
  · rw [if_pos a0, if_pos a0]
    have hl : lastOf s σ.l b = lastS s (ρ.l ++ [b]) := by rw [h4, lastOf_lastS _ _ _ hc.s1]
    rw [hl]
    split
    · exact ⟨⟨rfl, rfl, rfl, rfl, by simp, by simp⟩, by simp⟩
    · exact ⟨⟨rfl, rfl, rfl, by simp only [lastS_nil], by simp, by simp⟩, by simp⟩
  · rw [if_neg a0, if_neg a0]
    have he := h5 a0
    by_cases a1 : σ.st = 1
    · rw [if_pos a1, if_pos a1]
      exact ⟨⟨rfl, rfl, rfl, h4, fun _ => he, by simp⟩, by simp⟩
    · rw [if_neg a1, if_neg a1]
      have a2 : σ.st = 2 := by omega
      obtain ⟨h7, h8⟩ := h6 a2
      rw [h7, h8]
      cases b
      · simp only [Bool.false_eq_true, if_false]
        exact ⟨⟨rfl, rfl, rfl, by simp only [lastS_nil], by simp, by simp⟩, by simp⟩
      · simp only [if_true]
        by_cases hp : σ.good + 1 = p
        · rw [if_pos hp, if_pos (by omega)]
          exact ⟨⟨rfl, rfl, rfl, by simp only [lastS_nil], by simp, by simp⟩, by simp⟩
        · rw [if_neg hp, if_neg (by omega)]
          exact ⟨⟨rfl, rfl, rfl, h4, fun _ => he, fun _ => ⟨rfl, rfl⟩⟩, by simp⟩

def RK (w : World) (base : Nat → Prop) (g : Nat) (s f r p : Int) (σ : St) (v : Value) : Prop :=
  B38 w g s f r p σ.st σ.now σ.un v σ.out σ.good ∧ LastB w base v σ.l

def OutR (base : Nat → Prop) (g : Nat) (s f r p : Int) (v : Value) (w : World) (u : Value) (σ : St) (e : Ending) (w' : World) : Prop :=
  e = .returned u ∧ ∃ v', RK w' base g s f r p σ v' ∧ Only (fun k => k = g ∨ v.ownBlock = some k) w w'

theorem allow_rm {w : World} {base : Nat → Prop} {g : Nat} {s f r p : Int} {σ : St} {v : Value} (hb : RK w base g s f r p σ v) (h3 : σ.st = 0 ∨ σ.st = 1 ∨ σ.st = 2) (ho0 : σ.st = 2 → 0 ≤ σ.out) (hc : Cfg s f r p) (t : Int) :
    Calls Try.prog 11 #[.pointer (some ⟨g, 0, none⟩), .int .i64 t] w (OutR base g s f r p v w (.bool (allowR p σ t).1) (allowR p σ t).2) := by
  obtain ⟨st, now, un, l, out, good⟩ := σ
  obtain ⟨hb1, hb2⟩ := hb
  have hne := own_ne38 hb2 hb1
  have hp := hc.p2
  simp only at h3 hb1 hb2 ho0
  rcases h3 with rfl | rfl | rfl
  · refine (allow_r_0 g s f r p now un v out good t w hb1).mono ?_
    rintro e w' ⟨rfl, hb', ho⟩
    exact ⟨by simp [allowR], v, ⟨by simpa [allowR] using hb', by simpa [allowR] using hb2.only hne ho⟩, ho.mono (fun _ h => .inl h)⟩
  · by_cases hu : mx now (cl t) < un
    · refine (allow_r_1 g s f r p now un v out good t w hb1 hu).mono ?_
      rintro e w' ⟨rfl, hb', ho⟩
      exact ⟨by simp [allowR, hu], v, ⟨by simpa [allowR, hu] using hb', by simpa [allowR, hu] using hb2.only hne ho⟩, ho.mono (fun _ h => .inl h)⟩
    · refine (allow_r_1yes g s f r p now un v out good t w hb1 (by omega) hc.p1).mono ?_
      rintro e w' ⟨rfl, hb', ho⟩
      exact ⟨by simp [allowR, hu], v, ⟨by simpa [allowR, hu] using hb', by simpa [allowR, hu] using hb2.only hne ho⟩, ho.mono (fun _ h => .inl h)⟩
  · have ho := ho0 rfl
    by_cases hu : p ≤ out
    · refine (allow_r_2no g s f r p now un v out good t w hb1 (by omega)).mono ?_
      rintro e w' ⟨rfl, hb', ho⟩
      exact ⟨by simp [allowR, hu], v, ⟨by simpa [allowR, hu] using hb', by simpa [allowR, hu] using hb2.only hne ho⟩, ho.mono (fun _ h => .inl h)⟩
    · refine (allow_r_2yes g s f r p now un v out good t w hb1 (by omega) (by unfold wrap64; omega)).mono ?_
      rintro e w' ⟨rfl, hb', ho⟩
      exact ⟨by simp [allowR, hu], v, ⟨by simpa [allowR, hu] using hb', by simpa [allowR, hu] using hb2.only hne ho⟩, ho.mono (fun _ h => .inl h)⟩

theorem done_rm {w : World} {base : Nat → Prop} {g : Nat} {s f r p : Int} {σ : St} {v : Value} (hb : RK w base g s f r p σ v) (h3 : σ.st = 0 ∨ σ.st = 1 ∨ σ.st = 2) (hg0 : σ.st = 2 → 0 ≤ σ.good ∧ σ.good < p) (hl : σ.l.length ≤ 200) (hc : Cfg s f r p) (hbase : ∀ k, w.heap.size ≤ k → base k) (t : Int) (b : Bool) :
    Calls Try.prog 12 #[.pointer (some ⟨g, 0, none⟩), .int .i64 t, .bool b] w (OutR base g s f r p v w (.tuple #[]) (doneR s f r p σ t b)) := by
  obtain ⟨st, now, un, l, out, good⟩ := σ
  obtain ⟨hb1, hb2⟩ := hb
  have hne := own_ne38 hb2 hb1
  have hp2 := hc.p2
  simp only at h3 hb1 hb2 hg0 hl
  rcases h3 with rfl | rfl | rfl
  · refine (done_r_0 g s f r p now un v out good t w l b base hb1 hb2 ⟨hc.s1, hc.s2⟩ hl hbase).mono ?_
    rintro e w' ⟨rfl, ho, ⟨hlt, v', hb', hl'⟩ | ⟨hge, hb'⟩⟩
    · exact ⟨rfl, v', ⟨by simpa [doneR, hlt] using hb', by simpa [doneR, hlt] using hl'⟩, ho⟩
    · have hlt : ¬ bads (lastS s (l ++ [b])) < f := by omega
      exact ⟨rfl, .slice none 0 0, ⟨by simpa [doneR, hlt] using hb', by simpa [doneR, hlt] using LastB.nil w' base⟩, ho⟩
  · refine (done_r_1 g s f r p now un v out good t w b hb1).mono ?_
    rintro e w' ⟨rfl, hb', ho⟩
    exact ⟨rfl, v, ⟨by simpa [doneR] using hb', by simpa [doneR] using hb2.only hne ho⟩, ho.mono (fun _ h => .inl h)⟩
  · obtain ⟨hg0, hg1⟩ := hg0 rfl
    cases b
    · refine (done_r_2bad g s f r p now un v out good t w hb1).mono ?_
      rintro e w' ⟨rfl, hb', ho⟩
      exact ⟨rfl, .slice none 0 0, ⟨by simpa [doneR] using hb', by simpa [doneR] using LastB.nil w' base⟩, ho.mono (fun _ h => .inl h)⟩
    · refine (done_r_2good g s f r p now un v out good t w hb1 (by unfold wrap64; omega)).mono ?_
      rintro e w' ⟨rfl, ho, ⟨hp, hb'⟩ | ⟨hp, hb'⟩⟩
      · exact ⟨rfl, .slice none 0 0, ⟨by simpa [doneR, hp] using hb', by simpa [doneR, hp] using LastB.nil w' base⟩, ho.mono (fun _ h => .inl h)⟩
      · exact ⟨rfl, v, ⟨by simpa [doneR, hp] using hb', by simpa [doneR, hp] using hb2.only hne ho⟩, ho.mono (fun _ h => .inl h)⟩

/-- The two of them, apart. -/
def Two (w : World) (B g h : Nat) (s f r p : Int) (σ ρ : St) : Prop :=
  B ≤ g ∧ B ≤ h ∧ ∃ v u, BK w (fun k => B ≤ k) g s f r p σ v ∧ RK w (fun k => B ≤ k) h s f r p ρ u ∧ ∀ k, v.ownBlock = some k → u.ownBlock ≠ some k

theorem b46_ne {w : World} {g h : Nat} {cs ds : Array Value} (a : w.heap[g]? = some (.cells cs 46 (0, 0))) (b : w.heap[h]? = some (.cells ds 38 (0, 0))) : g ≠ h := by
  rintro rfl
  rw [a] at b
  simp at b

theorem Two.left {w w' : World} {B g h : Nat} {s f r p : Int} {σ σ' ρ : St} {e : Ending} {x : Value} {v u : Value} (hg : B ≤ g) (hh : B ≤ h) (hb : BK w (fun k => B ≤ k) g s f r p σ v) (hr : RK w (fun k => B ≤ k) h s f r p ρ u) (hd : ∀ k, v.ownBlock = some k → u.ownBlock ≠ some k)
    (ho : Out (fun k => v.ownBlock = some k ∨ w.heap.size ≤ k) g s f r p v w x σ' e w') : e = .returned x ∧ Two w' B g h s f r p σ' ρ ∧ Only (fun k => B ≤ k) w w' := by
  obtain ⟨rfl, v', ⟨hb', hl'⟩, ho⟩ := ho
  have hlt := blk_lt hb.1
  refine ⟨rfl, ⟨hg, hh, v', u, ⟨hb', hl'.to (fun k hk => ?_)⟩, ⟨ho.blk hr.1 ?_, hr.2.keep (fun k hk hlt => ho.block k hlt ?_)⟩, fun k hk hk2 => ?_⟩, ho.mono (fun k hk => hk.elim (fun e => e ▸ hg) (fun e => (hb.2.own e).1))⟩
  · rcases (hl'.own hk).1 with h1 | h1
    · exact (hb.2.own h1).1
    · omega
  · rintro (e | e)
    · exact b46_ne hb.1 hr.1 e.symm
    · exact own_ne38 hb.2 hr.1 e
  · rintro (e | e)
    · exact own_ne hr.2 hb.1 (e ▸ hk)
    · exact hd k e hk
  · rcases (hl'.own hk).1 with h1 | h1
    · exact hd k h1 hk2
    · have := (hr.2.own hk2).2
      omega

theorem Two.right {w w' : World} {B g h : Nat} {s f r p : Int} {σ ρ ρ' : St} {e : Ending} {x : Value} {v u : Value} (hg : B ≤ g) (hh : B ≤ h) (hb : BK w (fun k => B ≤ k) g s f r p σ v) (hr : RK w (fun k => B ≤ k) h s f r p ρ u) (hd : ∀ k, v.ownBlock = some k → u.ownBlock ≠ some k)
    (ho : OutR (fun k => u.ownBlock = some k ∨ w.heap.size ≤ k) h s f r p u w x ρ' e w') : e = .returned x ∧ Two w' B g h s f r p σ ρ' ∧ Only (fun k => B ≤ k) w w' := by
  obtain ⟨rfl, u', ⟨hb', hl'⟩, ho⟩ := ho
  have hlt := blk_lt hr.1
  refine ⟨rfl, ⟨hg, hh, v, u', ⟨ho.blk hb.1 ?_, hb.2.keep (fun k hk hlt => ho.block k hlt ?_)⟩, ⟨hb', hl'.to (fun k hk => ?_)⟩, fun k hk hk2 => ?_⟩, ho.mono (fun k hk => hk.elim (fun e => e ▸ hh) (fun e => (hr.2.own e).1))⟩
  · rintro (e | e)
    · exact b46_ne hb.1 hr.1 e
    · exact own_ne hr.2 hb.1 e
  · rintro (e | e)
    · exact own_ne38 hb.2 hr.1 (e ▸ hk)
    · exact hd k hk e
  · rcases (hl'.own hk).1 with h1 | h1
    · exact (hr.2.own h1).1
    · omega
  · rcases (hl'.own hk2).1 with h1 | h1
    · exact hd k hk h1
    · have := (hb.2.own hk).2
      omega

section
variable {w : World} {B g h : Nat} {s f r p : Int} {σ ρ : St}

theorem Two.drew (H : Two w B g h s f r p σ ρ) : Two w.drew B g h s f r p σ ρ := H

theorem two_allow (H : Two w B g h s f r p σ ρ) (hI : Inv s p σ) (hc : Cfg s f r p) (t : Int) :
    Calls Try.prog 10 #[.pointer (some ⟨g, 0, none⟩), .int .i64 t] w fun e w' => e = .returned (.bool (allowM p σ t).1) ∧ Two w' B g h s f r p (allowM p σ t).2 ρ ∧ Only (fun k => B ≤ k) w w' := by
  obtain ⟨hg, hh, v, u, hb, hr, hd⟩ := H
  exact (allow_m (base := fun k => v.ownBlock = some k ∨ w.heap.size ≤ k) ⟨hb.1, hb.2.to (fun k hk => .inl hk)⟩ hI hc t).mono (fun e w' ho => Two.left hg hh hb hr hd ho)

theorem two_done (H : Two w B g h s f r p σ ρ) (hI : Inv s p σ) (hc : Cfg s f r p) (t : Int) (b : Bool) :
    Calls Try.prog 13 #[.pointer (some ⟨g, 0, none⟩), .int .i64 t, .bool b] w fun e w' => e = .returned (.int .i64 0) ∧ Two w' B g h s f r p (doneM s f r p σ t b) ρ ∧ Only (fun k => B ≤ k) w w' := by
  obtain ⟨hg, hh, v, u, hb, hr, hd⟩ := H
  exact (done_m (base := fun k => v.ownBlock = some k ∨ w.heap.size ≤ k) ⟨hb.1, hb.2.to (fun k hk => .inl hk)⟩ hI hc (fun k hk => .inr hk) t b).mono (fun e w' ho => Two.left hg hh hb hr hd ho)

theorem two_allow_r (H : Two w B g h s f r p σ ρ) (h3 : ρ.st = 0 ∨ ρ.st = 1 ∨ ρ.st = 2) (ho0 : ρ.st = 2 → 0 ≤ ρ.out) (hc : Cfg s f r p) (t : Int) :
    Calls Try.prog 11 #[.pointer (some ⟨h, 0, none⟩), .int .i64 t] w fun e w' => e = .returned (.bool (allowR p ρ t).1) ∧ Two w' B g h s f r p σ (allowR p ρ t).2 ∧ Only (fun k => B ≤ k) w w' := by
  obtain ⟨hg, hh, v, u, hb, hr, hd⟩ := H
  exact (allow_rm (base := fun k => u.ownBlock = some k ∨ w.heap.size ≤ k) ⟨hr.1, hr.2.to (fun k hk => .inl hk)⟩ h3 ho0 hc t).mono (fun e w' ho => Two.right hg hh hb hr hd ho)

theorem two_done_r (H : Two w B g h s f r p σ ρ) (h3 : ρ.st = 0 ∨ ρ.st = 1 ∨ ρ.st = 2) (hg0 : ρ.st = 2 → 0 ≤ ρ.good ∧ ρ.good < p) (hl : ρ.l.length ≤ 200) (hc : Cfg s f r p) (t : Int) (b : Bool) :
    Calls Try.prog 12 #[.pointer (some ⟨h, 0, none⟩), .int .i64 t, .bool b] w fun e w' => e = .returned (.tuple #[]) ∧ Two w' B g h s f r p σ (doneR s f r p ρ t b) ∧ Only (fun k => B ≤ k) w w' := by
  obtain ⟨hg, hh, v, u, hb, hr, hd⟩ := H
  exact (done_rm (base := fun k => u.ownBlock = some k ∨ w.heap.size ≤ k) ⟨hr.1, hr.2.to (fun k hk => .inl hk)⟩ h3 hg0 hl hc (fun k hk => .inr hk) t b).mono (fun e w' ho => Two.right hg hh hb hr hd ho)

theorem two_state (H : Two w B g h s f r p σ ρ) (hc : Cfg s f r p) {x : Int} (hx : σ.st = x) :
    Calls Try.prog 14 #[.pointer (some ⟨g, 0, none⟩)] w fun e w' => e = .returned (.int .i64 x) ∧ w = w' := by
  obtain ⟨hg, hh, v, u, hb, hr, hd⟩ := H
  exact hx ▸ state_m hb hc

theorem Two.cell4 (H : Two w B g h s f r p σ ρ) {x : Int} (hx : ρ.st = x) : w.cell? ⟨h, 4, none⟩ = some (.int .i64 x) := by
  obtain ⟨hg, hh, v, u, hb, hr, hd⟩ := H
  exact hx ▸ cell_at hr.1 4 rfl

theorem Two.lt (H : Two w B g h s f r p σ ρ) : B ≤ w.heap.size := by
  obtain ⟨hg, hh, v, u, hb, hr, hd⟩ := H
  have := blk_lt hb.1
  omega
end

end Go.Proofs.Ytocbnfpnbgpfjaa.Brk

/- Hedge: what a game of attempts does, as plain functions; the contracts of the small functions. -/
import Derived.Test.YtpkmpbocgbmliaaHx2
import Derived.Test.YtpkmpbocgbmliaaBase
import Derived.Test.YtpkmpbocgbmliaaRws
import Derived.WalkSpells
import Derived.Lib.SlFresh
import Derived.Deep.RegionLaw
import Derived.Deep.MidRow
set_option linter.unusedVariables false
set_option linter.unusedSimpArgs false
namespace Go.Proofs.Ytpkmpbocgbmliaa.Hd
open Go.RowKit Go.Proofs.Ytpkmpbocgbmliaa.Base Go.Proofs.Ytpkmpbocgbmliaa.Rws Go.Proofs.Ytpkmpbocgbmliaa.PHedgePlays Go.Proofs.YtpkmpbocgbmliaaW.PrintWords Go.Proofs.YtpkmpbocgbmliaaW.PrintMore
attribute [local go_sem] max2_mx min2_mn max_two min_two max_three min_three max_four min_four

/-- The nearest time. -/
def cl (a : Int) : Int := if a < 0 then 0 else if 1125899906842624 < a then 1125899906842624 else a
/-- A time behind another one. -/
def addT (a b : Int) : Int := cl (cl a + cl b)
def clean (c : Int) : Int := if 0 ≤ c ∧ c < 17 then c else 2

theorem cl_bd (a : Int) : 0 ≤ cl a ∧ cl a ≤ 1125899906842624 := by unfold cl; split <;> (try split) <;> omega
theorem cl_in {a : Int} (h0 : 0 ≤ a) (h1 : a ≤ 1125899906842624) : cl a = a := by unfold cl; rw [if_neg (by omega), if_neg (by omega)]
theorem cl_mn (a : Int) : mn (mx a 0) 1125899906842624 = cl a := by unfold mn mx cl; split <;> split <;> (try split) <;> omega
theorem addT_bd (a b : Int) : 0 ≤ addT a b ∧ addT a b ≤ 1125899906842624 := cl_bd _

theorem clamp_p (a : Int) (w : World) : Calls Try.prog 14 #[.int .i64 a] w fun e w' => e = .returned (.int .i64 (cl a)) ∧ w = w' := by
  have h := cl_mn a
  go_enter Try.func14, Try.ntmps14
  go_wp2
  go_ret
  exact ⟨rfl, rfl⟩

theorem add_p (a b : Int) (w : World) : Calls Try.prog 22 #[.int .i64 a, .int .i64 b] w fun e w' => e = .returned (.int .i64 (addT a b)) ∧ w = w' := by
  have h1 := cl_bd a
  have h2 := cl_bd b
  have hw : wrap64 (cl a + cl b) = cl a + cl b := by unfold wrap64; omega
  go_enter Try.func22, Try.ntmps22
  go_wp2_with (go_at_call 14; refine (clamp_p _ _).mono ?_; rintro e w' ⟨rfl, rfl⟩)
  go_ret
  exact ⟨rfl, rfl⟩

def againB (c : Int) : Bool := decide (c = 14 ∨ c = 8)

theorem again_p (c : Int) (w : World) : Calls Try.prog 25 #[.int .i64 c] w fun e w' => e = .returned (.bool (againB c)) ∧ w = w' := by
  unfold againB
  have hcs : c = 14 ∨ (¬ c = 14 ∧ c = 8) ∨ (¬ c = 14 ∧ ¬ c = 8) := by omega
  rcases hcs with rfl | ⟨h, rfl⟩ | ⟨h, h2⟩
  · go_enter Try.func25, Try.ntmps25
    go_wp2
    go_ret
    exact ⟨rfl, rfl⟩
  · go_enter Try.func25, Try.ntmps25
    go_wp2
    go_ret
    exact ⟨rfl, rfl⟩
  · have hd : decide (c = 14 ∨ c = 8) = false := decide_eq_false (by omega)
    rw [hd]
    go_enter Try.func25, Try.ntmps25
    go_wp2
    go_ret
    exact ⟨by simp [h, h2], rfl⟩

theorem names_p (w : World) : Calls Try.prog 27 #[] w fun e w' => (∃ v, e = .returned v) ∧ Only (fun _ => False) w w' := by
  go_enter Try.func27, Try.ntmps27
  go_wp2
  (try simp only [Exit.inBlock, Exit.then])
  exact bodyPost_ret (results_cell_row rfl _ _ w.heap.size 53 _ (0, 0) _ rfl (heap_alloc_new w _) Try.underlying53 rfl (by kernel_rfl)) rfl ⟨⟨_, rfl⟩, (Only.refl _ w).alloc _⟩

theorem right_p (c : Int) (w : World) : Calls Try.prog 26 #[.int .i64 c] w fun e w' => e = .returned (.bool (decide (0 ≤ c ∧ c < 17))) ∧ Only (fun _ => False) w w' := by
  have hcs : (¬ 0 ≤ c) ∨ (0 ≤ c ∧ c < 17) ∨ (0 ≤ c ∧ ¬ c < 17) := by omega
  rcases hcs with h | ⟨h, h2⟩ | ⟨h, h2⟩
  · rw [decide_eq_false (fun e => h e.1)]
    go_enter Try.func26, Try.ntmps26
    go_wp2
    go_ret
    exact ⟨rfl, Only.refl _ _⟩
  · rw [decide_eq_true ⟨h, h2⟩]
    go_enter Try.func26, Try.ntmps26
    go_wp2_with (go_at_call 27; refine (names_p _).mono ?_; rintro e w1 ⟨⟨v, rfl⟩, ho⟩; have HO := Lib.hid ho; clear ho)
    go_ret
    exact ⟨rfl, HO.out⟩
  · rw [decide_eq_false (fun e => h2 e.2)]
    go_enter Try.func26, Try.ntmps26
    go_wp2_with (go_at_call 27; refine (names_p _).mono ?_; rintro e w1 ⟨⟨v, rfl⟩, ho⟩; have HO := Lib.hid ho; clear ho)
    go_ret
    exact ⟨by simp [h2], HO.out⟩

theorem clean_p (c : Int) (w : World) : Calls Try.prog 23 #[.int .i64 c] w fun e w' => e = .returned (.int .i64 (clean c)) ∧ Only (fun _ => False) w w' := by
  have HR := Lib.hid (right_p c w)
  unfold clean
  by_cases h : 0 ≤ c ∧ c < 17
  · rw [if_pos h]
    rw [decide_eq_true h] at HR
    go_enter Try.func23, Try.ntmps23
    go_wp2_with (go_at_call 26; refine HR.out.mono ?_; rintro e w1 ⟨rfl, ho⟩; have HO := Lib.hid ho; clear ho)
    go_ret
    exact ⟨rfl, HO.out⟩
  · rw [if_neg h]
    rw [decide_eq_false h] at HR
    go_enter Try.func23, Try.ntmps23
    go_wp2_with (go_at_call 26; refine HR.out.mono ?_; rintro e w1 ⟨rfl, ho⟩; have HO := Lib.hid ho; clear ho)
    go_ret
    exact ⟨rfl, HO.out⟩

/-! ### The game -/
/-- An answer that is to come. -/
structure Due where
  t : Int
  who : Int
  code : Int
def due0 : Due := ⟨0, 0, 0⟩
def encD (d : Due) : List Value := [.int .i64 d.t, .int .i64 d.who, .int .i64 d.code]

/-- What does not change: how many, the delay, the deadline, the answers. -/
structure Kst where
  most : Int
  delay : Int
  dl : Int
  l : List S36
/-- What changes. -/
structure St where
  sent : Int
  next : Int
  out : List Due
structure Res where
  code : Int
  t : Int
  sent : Int
  who : Int

def dueOf (K : Kst) (s t : Int) : Due := if s ≤ K.l.length ∧ 0 ≤ (rd_T36 K.l (s - 1)).f0 then ⟨addT t (rd_T36 K.l (s - 1)).f0, s, clean (rd_T36 K.l (s - 1)).f1⟩ else ⟨1125899906842624, s, 0⟩
def sendM (K : Kst) (σ : St) (t : Int) : St := ⟨σ.sent + 1, addT t K.delay, σ.out ++ [dueOf K (σ.sent + 1) t]⟩
/-- The place of the first of the least ones among the first n. -/
def firstN (out : List Due) : Nat → Nat
  | 0 => 0
  | n + 1 => if (out.getD n due0).t < (out.getD (firstN out n) due0).t then n else firstN out n
def lateM (K : Kst) (σ : St) : Res := ⟨4, K.dl, σ.sent, 0⟩
def stepM (K : Kst) (σ : St) : Option Res × St :=
  if σ.sent < K.most ∧ σ.next < (σ.out.getD (firstN σ.out σ.out.length) due0).t then
    if σ.next < K.dl then (none, sendM K σ σ.next) else (some (lateM K σ), σ)
  else if K.dl ≤ (σ.out.getD (firstN σ.out σ.out.length) due0).t then (some (lateM K σ), σ)
  else
    if againB (σ.out.getD (firstN σ.out σ.out.length) due0).code = false ∨ (K.most ≤ σ.sent ∧ σ.out.length = 1) then
      (some ⟨(σ.out.getD (firstN σ.out σ.out.length) due0).code, (σ.out.getD (firstN σ.out σ.out.length) due0).t, σ.sent, (σ.out.getD (firstN σ.out σ.out.length) due0).who⟩, ⟨σ.sent, σ.next, σ.out.take (firstN σ.out σ.out.length) ++ σ.out.drop (firstN σ.out σ.out.length + 1)⟩)
    else if σ.sent < K.most then (none, sendM K ⟨σ.sent, σ.next, σ.out.take (firstN σ.out σ.out.length) ++ σ.out.drop (firstN σ.out σ.out.length + 1)⟩ (σ.out.getD (firstN σ.out σ.out.length) due0).t)
    else (none, ⟨σ.sent, σ.next, σ.out.take (firstN σ.out σ.out.length) ++ σ.out.drop (firstN σ.out σ.out.length + 1)⟩)

/-- Within bounds. -/
structure OkS (K : Kst) (σ : St) : Prop where
  most : K.most ≤ 5
  s0 : 0 ≤ σ.sent
  s1 : σ.sent ≤ K.most
  len : (σ.out.length : Int) ≤ σ.sent

theorem firstN_lt (out : List Due) (n : Nat) (h : 0 < n) : firstN out n < n := by
  induction n with
  | zero => omega
  | succ n ih =>
    unfold firstN
    split
    · omega
    · by_cases hn : n = 0
      · subst hn; simp [firstN]
      · have := ih (by omega); omega

/-- The game's block, its answers to come, and the answers that came in. -/
structure Gm (w0 w : World) (g : Nat) (K : Kst) (A : Option Addr) (c : Nat) (σ : St) (v : Value) : Prop where
  blk : w.heap[g]? = some (.cells #[.int .i64 K.most, .int .i64 K.delay, .int .i64 K.dl, .slice A K.l.length c, .int .i64 σ.sent, .int .i64 σ.next, v] 40 (0, 0))
  row : Row 3 51 w (fun k => w0.heap.size ≤ k) v σ.out.length (σ.out.flatMap encD)
  ge : w0.heap.size ≤ g
  ans : Kd.C k36 w0 A K.l.length K.l
  bel : Below w0.heap.size w0 w

end Go.Proofs.Ytpkmpbocgbmliaa.Hd

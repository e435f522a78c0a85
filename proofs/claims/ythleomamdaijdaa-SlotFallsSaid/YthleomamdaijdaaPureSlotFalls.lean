/- The pure statement of SlotFalls: when its slot begins a time is found anew at a lower level, or is now; until then it stays. No condition beyond int's range. -/
import Derived.Test.YthleomamdaijdaaPSlotFallsx1
namespace Go.Proofs.Ythleomamdaijdaa.Pure
open Go.RowKit Go.Proofs.Ythleomamdaijdaa.PSlotFalls Go.Proofs.YthleomamdaijdaaW.PrintWords Go.Proofs.YthleomamdaijdaaW.PrintLast Go.Proofs.YthleomamdaijdaaW.PrintMore

/-- A time, from 0 to the greatest tick. -/
def cl (a : Int) : Int := if a < 0 then 0 else if a > 1125899906842624 then 1125899906842624 else a

theorem cl_bounds (a : Int) : 0 ≤ cl a ∧ cl a ≤ 1125899906842624 := by
  unfold cl; repeat' split
  all_goals omega

theorem cl_same (a : Int) (h0 : 0 ≤ a) (h1 : a ≤ 1125899906842624) : cl a = a := by
  unfold cl; repeat' split
  all_goals omega

theorem cl_p (a : Int) : ticks_Clamp.f a = some (cl a) := by
  unfold ticks_Clamp.f cl mn mx
  congr 1
  repeat' split
  all_goals omega

theorem cl_r (a : Int) : hourglassref01_Clamp.f a = some (cl a) := by
  unfold hourglassref01_Clamp.f cl
  repeat' split
  all_goals rfl

set_option linter.unusedSimpArgs false

theorem awake (k : Nat) (h : 2 ≤ k) : hourglasslaw09_awake.f k = some true := by
  refine at_rounds hourglasslaw09_awake.mono h ?_
  decide +kernel

theorem and63 (x : Int) (h0 : 0 ≤ x) (h1 : x < 9223372036854775808) : Go.bits .and .i64 x 63 = x % 64 :=
  bits_mask .i64 63 (by decide) (fun n h0 h1 => by rw [IntKind.wrap_i64]; omega) 6 (by decide) x h0 h1

theorem xor_nat (a b : Nat) (ha : a < 2 ^ 63) (hb : b < 2 ^ 63) : Go.bits .xor .i64 a b = ((a ^^^ b : Nat) : Int) := by
  have ha' : a % 2 ^ IntKind.i64.bits = a := Nat.mod_eq_of_lt (Nat.lt_of_lt_of_le ha (by decide))
  have hb' : b % 2 ^ IntKind.i64.bits = b := Nat.mod_eq_of_lt (Nat.lt_of_lt_of_le hb (by decide))
  simp only [bits, BitVec.ofInt_natCast, BitVec.toNat_xor, BitVec.toNat_ofNat, ha', hb']
  have hx := Nat.xor_lt_two_pow ha hb
  rw [IntKind.wrap_i64]; omega

/-- What is put together by exclusive or is nothing above a bit just where both are the same above it. -/
theorem xor_above (n x : Int) (hn : 0 ≤ n ∧ n ≤ 1125899906842624) (hx : 0 ≤ x ∧ x ≤ 1125899906842624) (j : Nat) (hj : j ≤ 64) :
    shr .i64 (Go.bits .xor .i64 n x) j = 0 ↔ n / 2 ^ j = x / 2 ^ j := by
  obtain ⟨a, rfl⟩ := Int.eq_ofNat_of_zero_le hn.1
  obtain ⟨b, rfl⟩ := Int.eq_ofNat_of_zero_le hx.1
  rw [xor_nat a b (by omega) (by omega)]
  unfold shr
  rw [Int.toNat_natCast, Nat.min_eq_left (by simpa [IntKind.bits] using hj)]
  have e : ∀ m : Nat, (m : Int) / 2 ^ j = ((m / 2 ^ j : Nat) : Int) := fun m => by simp
  rw [e, e, e, Int.natCast_inj, show (0 : Int) = ((0 : Nat) : Int) from rfl, Int.natCast_inj]
  rw [← Nat.shiftRight_eq_div_pow, ← Nat.shiftRight_eq_div_pow, ← Nat.shiftRight_eq_div_pow, Nat.shiftRight_xor_distrib]
  generalize a >>> j = p
  generalize b >>> j = q
  constructor
  · intro h
    have h2 : p ^^^ q ^^^ q = 0 ^^^ q := by rw [h]
    rw [Nat.xor_assoc, Nat.xor_self, Nat.xor_zero, Nat.zero_xor] at h2
    exact h2
  · intro h; rw [h, Nat.xor_self]

theorem part (t : Int) : slot_Part.f t 0 = some (cl t % 64) ∧ slot_Part.f t 1 = some (cl t / 64 % 64) ∧ slot_Part.f t 2 = some (cl t / 4096 % 64) ∧ slot_Part.f t 3 = some (cl t / 262144 % 64) := by
  have h := cl_bounds t
  have w0 : wrap64 (6 * 0) = 0 := by decide +kernel
  have w1 : wrap64 (6 * 1) = 6 := by decide +kernel
  have w2 : wrap64 (6 * 2) = 12 := by decide +kernel
  have w3 : wrap64 (6 * 3) = 18 := by decide +kernel
  have s0 : shr .i64 (cl t) 0 = cl t := by simp [shr]
  have s1 : shr .i64 (cl t) 6 = cl t / 64 := by simp [shr, IntKind.bits]
  have s2 : shr .i64 (cl t) 12 = cl t / 4096 := by simp [shr, IntKind.bits]
  have s3 : shr .i64 (cl t) 18 = cl t / 262144 := by simp [shr, IntKind.bits]
  simp only [slot_Part.f, cl_p, Option.bind_some, w0, w1, w2, w3, s0, s1, s2, s3]
  refine ⟨?_, ?_, ?_, ?_⟩ <;> simp <;> rw [and63] <;> omega

/-- Where a time stands. -/
def place (n x : Int) : Int × Int :=
  if x ≤ n then (0, n % 64)
  else if n / 64 = x / 64 then (0, x % 64)
  else if n / 4096 = x / 4096 then (1, x / 64 % 64)
  else if n / 262144 = x / 262144 then (2, x / 4096 % 64)
  else if n / 16777216 = x / 16777216 then (3, x / 262144 % 64)
  else (4, 0)

theorem placed (k : Nat) (h : 5 ≤ k) (now t : Int) : slot_Place.f k now t = some (place (cl now) (cl t)) := by
  have hn := cl_bounds now
  have hx := cl_bounds t
  obtain ⟨k, rfl⟩ : ∃ m, k = m + 5 := ⟨k - 5, by omega⟩
  have cx : cl (cl t) = cl t := cl_same _ hx.1 hx.2
  have cn : cl (cl now) = cl now := cl_same _ hn.1 hn.2
  obtain ⟨p0, p1, p2, p3⟩ := part (cl t)
  have q0 := (part (cl now)).1
  rw [cx] at p0 p1 p2 p3
  rw [cn] at q0
  have x1 : shr .i64 (Go.bits .xor .i64 (cl now) (cl t)) 6 = 0 ↔ cl now / 64 = cl t / 64 := xor_above (cl now) (cl t) hn hx 6 (by decide)
  have x2 : shr .i64 (Go.bits .xor .i64 (cl now) (cl t)) 12 = 0 ↔ cl now / 4096 = cl t / 4096 := xor_above (cl now) (cl t) hn hx 12 (by decide)
  have x3 : shr .i64 (Go.bits .xor .i64 (cl now) (cl t)) 18 = 0 ↔ cl now / 262144 = cl t / 262144 := xor_above (cl now) (cl t) hn hx 18 (by decide)
  have x4 : shr .i64 (Go.bits .xor .i64 (cl now) (cl t)) 24 = 0 ↔ cl now / 16777216 = cl t / 16777216 := xor_above (cl now) (cl t) hn hx 24 (by decide)
  have k1 : wrap64 1 = 1 := by decide +kernel
  have k2 : wrap64 2 = 2 := by decide +kernel
  have k3 : wrap64 3 = 3 := by decide +kernel
  have k4 : wrap64 4 = 4 := by decide +kernel
  have k6 : wrap64 6 = 6 := by decide +kernel
  have k12 : wrap64 12 = 12 := by decide +kernel
  have k18 : wrap64 18 = 18 := by decide +kernel
  have k24 : wrap64 24 = 24 := by decide +kernel
  unfold slot_Place.f place
  rw [cl_p, cl_p, Option.bind_some, Option.bind_some, q0]
  by_cases h1 : cl t ≤ cl now
  · rw [if_pos h1, if_pos h1]; rfl
  · rw [if_neg h1, if_neg h1]
    rw [show k + 5 = k + 1 + 1 + 1 + 1 + 1 from rfl]
    have z1 : (0 : Int) + 1 = 1 := rfl
    have z2 : (1 : Int) + 1 = 2 := rfl
    have z3 : (2 : Int) + 1 = 3 := rfl
    have z4 : (3 : Int) + 1 = 4 := rfl
    have m1 : (6 : Int) * 1 = 6 := rfl
    have m2 : (6 : Int) * 2 = 12 := rfl
    have m3 : (6 : Int) * 3 = 18 := rfl
    have m4 : (6 : Int) * 4 = 24 := rfl
    simp only [slot_Place.l0, z1, z2, z3, z4, m1, m2, m3, m4, k1, k2, k3, k4, k6, k12, k18, k24, p0, p1, p2, p3, Option.bind_some, x1, x2, x3, x4]
    generalize cl now = n at *
    generalize cl t = x at *
    clear x1 x2 x3 x4 p0 p1 p2 p3 q0
    by_cases g1 : n / 64 = x / 64
    · simp [g1]
    by_cases g2 : n / 4096 = x / 4096
    · simp [g1, g2]
    by_cases g3 : n / 262144 = x / 262144
    · simp [g1, g2, g3]
    by_cases g4 : n / 16777216 = x / 16777216
    · simp [g1, g2, g3, g4]
    · simp [g1, g2, g3, g4]

theorem start (now l a : Int) (hl : l = 0 ∨ l = 1 ∨ l = 2 ∨ l = 3) (ha : 0 ≤ a ∧ a < 64) :
    slot_Start.f now l a = some (if l = 0 then cl now / 64 * 64 + a else if l = 1 then cl now / 4096 * 4096 + a * 64 else if l = 2 then cl now / 262144 * 262144 + a * 4096 else cl now / 16777216 * 16777216 + a * 262144) := by
  have hn := cl_bounds now
  have w : ∀ x : Int, 0 ≤ x → x < 9223372036854775808 → IntKind.i64.wrap x = x := fun x h0 h1 => by rw [IntKind.wrap_i64]; omega
  have v : ∀ x : Int, 0 ≤ x → x < 9223372036854775808 → wrap64 x = x := fun x h0 h1 => by unfold wrap64; omega
  simp only [slot_Start.f, cl_p, Option.bind_some]
  generalize cl now = n at *
  rcases hl with rfl | rfl | rfl | rfl
  · have e1 : wrap64 (6 * wrap64 (0 + 1)) = 6 := by decide +kernel
    have e2 : wrap64 (6 * 0) = 0 := by decide +kernel
    rw [e1, e2, if_neg (by decide), if_neg (by decide), if_neg (by omega), if_neg (by omega), if_pos (by decide), if_pos (by decide), if_pos rfl]
    have s1 : shl .i64 (shr .i64 n 6) 6 = n / 64 * 64 := by simp [shr, shl, IntKind.bits]; rw [w] <;> omega
    have s2 : shl .i64 a 0 = a := by simp [shl]; rw [w] <;> omega
    rw [s1, s2, v] <;> omega
  · have e1 : wrap64 (6 * wrap64 (1 + 1)) = 12 := by decide +kernel
    have e2 : wrap64 (6 * 1) = 6 := by decide +kernel
    rw [e1, e2, if_neg (by decide), if_neg (by decide), if_neg (by omega), if_neg (by omega), if_pos (by decide), if_pos (by decide), if_neg (by decide), if_pos rfl]
    have s1 : shl .i64 (shr .i64 n 12) 12 = n / 4096 * 4096 := by simp [shr, shl, IntKind.bits]; rw [w] <;> omega
    have s2 : shl .i64 a 6 = a * 64 := by simp [shl, IntKind.bits]; rw [w] <;> omega
    rw [s1, s2, v] <;> omega
  · have e1 : wrap64 (6 * wrap64 (2 + 1)) = 18 := by decide +kernel
    have e2 : wrap64 (6 * 2) = 12 := by decide +kernel
    rw [e1, e2, if_neg (by decide), if_neg (by decide), if_neg (by omega), if_neg (by omega), if_pos (by decide), if_pos (by decide), if_neg (by decide), if_neg (by decide), if_pos rfl]
    have s1 : shl .i64 (shr .i64 n 18) 18 = n / 262144 * 262144 := by simp [shr, shl, IntKind.bits]; rw [w] <;> omega
    have s2 : shl .i64 a 12 = a * 4096 := by simp [shl, IntKind.bits]; rw [w] <;> omega
    rw [s1, s2, v] <;> omega
  · have e1 : wrap64 (6 * wrap64 (3 + 1)) = 24 := by decide +kernel
    have e2 : wrap64 (6 * 3) = 18 := by decide +kernel
    rw [e1, e2, if_neg (by decide), if_neg (by decide), if_neg (by omega), if_neg (by omega), if_pos (by decide), if_pos (by decide), if_neg (by decide), if_neg (by decide), if_neg (by decide)]
    have s1 : shl .i64 (shr .i64 n 24) 24 = n / 16777216 * 16777216 := by simp [shr, shl, IntKind.bits]; rw [w] <;> omega
    have s2 : shl .i64 a 18 = a * 262144 := by simp [shl, IntKind.bits]; rw [w] <;> omega
    rw [s1, s2, v] <;> omega

theorem start0 (now a : Int) (ha : 0 ≤ a ∧ a < 64) : slot_Start.f now 0 a = some (cl now / 64 * 64 + a) := start now 0 a (by omega) ha
theorem start1 (now a : Int) (ha : 0 ≤ a ∧ a < 64) : slot_Start.f now 1 a = some (cl now / 4096 * 4096 + a * 64) := start now 1 a (by omega) ha
theorem start2 (now a : Int) (ha : 0 ≤ a ∧ a < 64) : slot_Start.f now 2 a = some (cl now / 262144 * 262144 + a * 4096) := start now 2 a (by omega) ha
theorem start3 (now a : Int) (ha : 0 ≤ a ∧ a < 64) : slot_Start.f now 3 a = some (cl now / 16777216 * 16777216 + a * 262144) := start now 3 a (by omega) ha

theorem turn (t : Int) : slot_Turn.f t = some (cl t / 16777216 * 16777216) := by
  have h := cl_bounds t
  simp only [slot_Turn.f, cl_p, Option.bind_some]
  congr 1
  unfold wrap64; omega

/-- When its slot begins, at a time s, it is found anew at a lower level, or is now; until then it stays where it is. -/
theorem falls (n x m s level at_ : Int) (_hn : 0 ≤ n) (h0 : ¬ x ≤ n) (hp : place n x = (level, at_))
    (hs : level = 0 ∧ s = n / 64 * 64 + at_ ∨ level = 1 ∧ s = n / 4096 * 4096 + at_ * 64 ∨ level = 2 ∧ s = n / 262144 * 262144 + at_ * 4096 ∨ level = 3 ∧ s = n / 16777216 * 16777216 + at_ * 262144 ∨ level = 4 ∧ s = x / 16777216 * 16777216) :
    ((place s x).1 ≥ level → s = x) ∧ (n ≤ m → m < s → place m x = (level, at_)) := by
  unfold place at hp
  rw [if_neg h0] at hp
  by_cases h1 : n / 64 = x / 64
  · rw [if_pos h1] at hp
    obtain ⟨rfl, rfl⟩ := Prod.mk.inj hp
    have e : s = x := by omega
    subst e
    refine ⟨fun _ => rfl, fun a b => ?_⟩
    unfold place
    rw [if_neg (by omega), if_pos (by omega)]
  rw [if_neg h1] at hp
  by_cases h2 : n / 4096 = x / 4096
  · rw [if_pos h2] at hp
    obtain ⟨rfl, rfl⟩ := Prod.mk.inj hp
    have e : s = x / 64 * 64 := by omega
    refine ⟨fun g => ?_, fun a b => ?_⟩
    · unfold place at g
      by_cases c : x ≤ s
      · omega
      · rw [if_neg c, if_pos (by omega)] at g
        (simp only [] at g; omega)
    · unfold place
      rw [if_neg (by omega), if_neg (by omega), if_pos (by omega)]
  rw [if_neg h2] at hp
  by_cases h3 : n / 262144 = x / 262144
  · rw [if_pos h3] at hp
    obtain ⟨rfl, rfl⟩ := Prod.mk.inj hp
    have e : s = x / 4096 * 4096 := by omega
    refine ⟨fun g => ?_, fun a b => ?_⟩
    · unfold place at g
      by_cases c : x ≤ s
      · omega
      · rw [if_neg c] at g
        by_cases c1 : s / 64 = x / 64
        · rw [if_pos c1] at g
          (simp only [] at g; omega)
        · rw [if_neg c1, if_pos (by omega)] at g
          (simp only [] at g; omega)
    · unfold place
      rw [if_neg (by omega), if_neg (by omega), if_neg (by omega), if_pos (by omega)]
  rw [if_neg h3] at hp
  by_cases h4 : n / 16777216 = x / 16777216
  · rw [if_pos h4] at hp
    obtain ⟨rfl, rfl⟩ := Prod.mk.inj hp
    have e : s = x / 262144 * 262144 := by omega
    refine ⟨fun g => ?_, fun a b => ?_⟩
    · unfold place at g
      by_cases c : x ≤ s
      · omega
      · rw [if_neg c] at g
        by_cases c1 : s / 64 = x / 64
        · rw [if_pos c1] at g
          (simp only [] at g; omega)
        · rw [if_neg c1] at g
          by_cases c2 : s / 4096 = x / 4096
          · rw [if_pos c2] at g
            (simp only [] at g; omega)
          · rw [if_neg c2, if_pos (by omega)] at g
            (simp only [] at g; omega)
    · unfold place
      rw [if_neg (by omega), if_neg (by omega), if_neg (by omega), if_neg (by omega), if_pos (by omega)]
  rw [if_neg h4] at hp
  obtain ⟨rfl, rfl⟩ := Prod.mk.inj hp
  have e : s = x / 16777216 * 16777216 := by omega
  refine ⟨fun g => ?_, fun a b => ?_⟩
  · unfold place at g
    by_cases c : x ≤ s
    · omega
    · rw [if_neg c] at g
      by_cases c1 : s / 64 = x / 64
      · rw [if_pos c1] at g
        (simp only [] at g; omega)
      · rw [if_neg c1] at g
        by_cases c2 : s / 4096 = x / 4096
        · rw [if_pos c2] at g
          (simp only [] at g; omega)
        · rw [if_neg c2] at g
          by_cases c3 : s / 262144 = x / 262144
          · rw [if_pos c3] at g
            (simp only [] at g; omega)
          · rw [if_neg c3, if_pos (by omega)] at g
            (simp only [] at g; omega)
  · unfold place
    rw [if_neg (by omega), if_neg (by omega), if_neg (by omega), if_neg (by omega), if_neg (by omega)]

/-- The law's end. -/
theorem ends (now t mid level at_ s : Int) (hx : cl s = s) (h : ((place s (cl t)).1 ≥ level → s = cl t) ∧ (cl now ≤ cl mid → cl mid < s → place (cl mid) (cl t) = (level, at_))) :
    hourglasslaw09_SlotFalls.j0 7 (cl now) (cl t) (cl mid) level at_ s = some true := by
  have ct : cl (cl t) = cl t := cl_same _ (cl_bounds t).1 (cl_bounds t).2
  have cm : cl (cl mid) = cl mid := cl_same _ (cl_bounds mid).1 (cl_bounds mid).2
  obtain ⟨ha, hb⟩ := h
  have last : hourglasslaw09_SlotFalls.j1 6 (cl now) (cl t) (cl mid) level at_ s false = some true := by
    rw [show (6 : Nat) = 5 + 1 from rfl]
    simp only [hourglasslaw09_SlotFalls.j1]
    rw [if_neg (by decide), placed 5 (by decide), Option.bind_some, awake 5 (by decide), Option.bind_some, ct, cm]
    by_cases h1 : cl mid < cl now
    · rw [if_pos h1]
    · rw [if_neg h1]
      by_cases h2 : cl mid ≥ s
      · rw [if_pos h2]
      · rw [if_neg h2, hb (by omega) (by omega), if_pos rfl, if_pos rfl]
  rw [show (7 : Nat) = 6 + 1 from rfl]
  simp only [hourglasslaw09_SlotFalls.j0]
  rw [placed 6 (by decide), Option.bind_some, hx, ct]
  by_cases h1 : (place s (cl t)).1 ≥ level
  · have e := ha h1
    rw [if_pos h1, show (s != cl t) = false by simp [e]]
    exact last
  · rw [if_neg h1]
    exact last

theorem SlotFalls : hourglasslaw09_SlotFalls.Pure := by
  intro now t mid _ _ _
  have hn := cl_bounds now
  have hx := cl_bounds t
  have ct : cl (cl t) = cl t := cl_same _ hx.1 hx.2
  refine ⟨7, ?_⟩
  unfold hourglasslaw09_SlotFalls.f
  rw [cl_r, cl_r, cl_r, Option.bind_some, Option.bind_some, Option.bind_some, placed 7 (by decide), Option.bind_some, awake 7 (by decide), Option.bind_some]
  by_cases h0 : cl t ≤ cl now
  · rw [if_pos h0]
  rw [if_neg h0, turn, Option.bind_some, ct]
  have hf := falls (cl now) (cl t) (cl mid)
  rcases hp : place (cl now) (cl t) with ⟨level, at_⟩
  have hpp := hp
  unfold place at hpp
  rw [if_neg h0] at hpp
  have same : ∀ a, 0 ≤ a → a ≤ cl t → cl a = a := fun a h1 h2 => cl_same a h1 (by omega)
  by_cases h1 : cl now / 64 = cl t / 64
  · rw [if_pos h1] at hpp
    obtain ⟨rfl, rfl⟩ := Prod.mk.inj hpp
    rw [if_pos (by simp only []; omega), start0 now _ (by omega), Option.bind_some]
    exact ends now t mid _ _ _ (same _ (by omega) (by omega)) (hf _ _ _ hn.1 h0 hp (by omega))
  rw [if_neg h1] at hpp
  by_cases h2 : cl now / 4096 = cl t / 4096
  · rw [if_pos h2] at hpp
    obtain ⟨rfl, rfl⟩ := Prod.mk.inj hpp
    rw [if_pos (by simp only []; omega), start1 now _ (by omega), Option.bind_some]
    exact ends now t mid _ _ _ (same _ (by omega) (by omega)) (hf _ _ _ hn.1 h0 hp (by omega))
  rw [if_neg h2] at hpp
  by_cases h3 : cl now / 262144 = cl t / 262144
  · rw [if_pos h3] at hpp
    obtain ⟨rfl, rfl⟩ := Prod.mk.inj hpp
    rw [if_pos (by simp only []; omega), start2 now _ (by omega), Option.bind_some]
    exact ends now t mid _ _ _ (same _ (by omega) (by omega)) (hf _ _ _ hn.1 h0 hp (by omega))
  rw [if_neg h3] at hpp
  by_cases h4 : cl now / 16777216 = cl t / 16777216
  · rw [if_pos h4] at hpp
    obtain ⟨rfl, rfl⟩ := Prod.mk.inj hpp
    rw [if_pos (by simp only []; omega), start3 now _ (by omega), Option.bind_some]
    exact ends now t mid _ _ _ (same _ (by omega) (by omega)) (hf _ _ _ hn.1 h0 hp (by omega))
  rw [if_neg h4] at hpp
  obtain ⟨rfl, rfl⟩ := Prod.mk.inj hpp
  rw [if_neg (by simp only []; omega)]
  exact ends now t mid _ _ _ (same _ (by omega) (by omega)) (hf _ _ _ hn.1 h0 hp (by omega))

end Go.Proofs.Ythleomamdaijdaa.Pure

/- Wheel: the document's wheel: a list by times. -/
import Derived.Test.YtkjokpmlnnjmoaaWhX
set_option linter.unusedVariables false
set_option linter.unusedSimpArgs false
namespace Go.Proofs.Ytkjokpmlnnjmoaa.Wh
open Go.RowKit Go.Maps Go.Proofs.Ytkjokpmlnnjmoaa.Base Go.Proofs.Ytkjokpmlnnjmoaa.Rws Go.Proofs.YtkjokpmlnnjmoaaW.PrintWords Go.Proofs.YtkjokpmlnnjmoaaW.PrintMore
attribute [local go_sem] max2_mx min2_mn max_two min_two max_three min_three max_four min_four

theorem info49 : (Try.prog.info? 49).map (fun i => (i.zero, i.size, i.bytes)) = some (some (.agg #[.int .i64 0, .int .i64 0]), 2, 16) := by kernel_rfl

def encP (p : Int × Int) : List Value := [.int .i64 p.1, .int .i64 p.2]
/-- Times and names of the call's own. -/
def Rs (w : World) (P : Nat → Prop) (v : Value) (L : List (Int × Int)) : Prop := Row 2 49 w P v L.length (L.flatMap encP)

theorem encP_at : ∀ (L : List (Int × Int)) (i j : Nat) (p : Int × Int), L[i]? = some p → j < 2 → (L.flatMap encP)[i * 2 + j]? = (encP p)[j]?
  | [], i, j, p, h, _ => by simp at h
  | q :: L, 0, j, p, h, hj => by
    simp at h
    subst h
    rw [List.flatMap_cons, Nat.zero_mul, Nat.zero_add, List.getElem?_append_left (by simpa [encP] using hj)]
  | q :: L, i + 1, j, p, h, hj => by
    rw [List.flatMap_cons, List.getElem?_append_right (by simp [encP]; omega)]
    rw [show (i + 1) * 2 + j - (encP q).length = i * 2 + j by simp [encP]; omega]
    exact encP_at L i j p (by simpa using h) hj

theorem flatP_len (L : List (Int × Int)) : (L.flatMap encP).length = L.length * 2 := by
  induction L with
  | nil => rfl
  | cons q L ih => rw [List.flatMap_cons, List.length_append, ih, List.length_cons]; simp [encP]; omega

theorem flatP_take (L : List (Int × Int)) (k : Nat) : (L.flatMap encP).take (k * 2) = (L.take k).flatMap encP := by
  induction L generalizing k with
  | nil => simp
  | cons q L ih =>
    cases k with
    | zero => simp
    | succ k =>
      rw [List.take_succ_cons, List.flatMap_cons, List.flatMap_cons, show (k + 1) * 2 = (encP q).length + k * 2 by simp [encP]; omega, List.take_length_add_append, ih]

theorem flatP_drop (L : List (Int × Int)) (k : Nat) : (L.flatMap encP).drop (k * 2) = (L.drop k).flatMap encP := by
  induction L generalizing k with
  | nil => simp
  | cons q L ih =>
    cases k with
    | zero => simp
    | succ k =>
      rw [List.drop_succ_cons, List.flatMap_cons, show (k + 1) * 2 = (encP q).length + k * 2 by simp [encP]; omega, List.drop_length_add_append, ih]

theorem Rs.all {W : World} {P P2 : Nat → Prop} {v v2 : Value} {L L2 : List (Int × Int)} (h : Rs W P v L) (h2 : Rs W P2 v2 L2) (hP : ∀ k, W.heap.size ≤ k → P k) (hb : L.length + L2.length ≤ 100000) (ty : TypeId) :
    ∃ v1 w1, (Builtin.append_ #[42, 42] ty #[v, v2]).run Try.prog W = .ok v1 w1 ∧ Rs w1 P v1 (L ++ L2) ∧ Only (fun k => v.ownBlock = some k) W w1 := by
  by_cases hn : L2.length = 0
  · obtain ⟨A, c, hv, _⟩ := Row.form h2
    rw [hn] at hv
    have h0 : L2 = [] := List.length_eq_zero_iff.1 hn
    rw [hv, h0, List.append_nil]
    exact ⟨v, W, Row.app0 h Try.underlying42 info49 A c, h, Only.refl _ _⟩
  · obtain ⟨q, o, c, hv, hc⟩ := Row.some_ h2 (by omega)
    unfold Rs at h2
    rw [hv] at h2 ⊢
    obtain ⟨v1, w1, hr, hR, ho⟩ := Row.app (ty := ty) h Try.underlying42 info49 (by rfl) hP ⟨q, o, none⟩ L2.length c (L2.flatMap encP) (flatP_len L2) (fun j u hu => by
      rw [Addr.add_lit]
      exact Row.cell h2 j hu) (fun u hu => by
      obtain ⟨t, _, ht⟩ := List.mem_flatMap.1 hu
      simp [encP] at ht
      rcases ht with rfl | rfl <;> rfl) (by omega) hb (by omega)
    refine ⟨v1, w1, hr, ?_, ho⟩
    unfold Rs
    rw [List.length_append, List.flatMap_append]
    exact hR

/-- A block of one pair is a row of it. -/
theorem Rs.one {w : World} {P : Nat → Prop} {q : Nat} {p : Int × Int} (h : w.heap[q]? = some (.cells #[.int .i64 p.1, .int .i64 p.2] 49 (0, 0))) (hq : P q) : Rs w P (.slice (some ⟨q, 0, none⟩) 1 1) [p] :=
  .inr ⟨q, 0, 1, _, rfl, hq, h, ⟨Nat.le_refl _, by decide⟩, by simp, rfl, fun j u hu => by rw [Nat.zero_add]; simpa [encP] using hu⟩

/-- The document's wheel at r. -/
structure RS (w : World) (r : Nat) (G : Nat → Prop) (n last : Int) (v : Value) (L : List (Int × Int)) : Prop where
  blk : w.heap[r]? = some (.cells #[.int .i64 n, .int .i64 last, v] 44 (0, 0))
  row : Rs w G v L
  gr : G r
  flt : ∀ k, G k → k < w.heap.size

section
variable {w w' : World} {r : Nat} {G S : Nat → Prop} {n last : Int} {v : Value} {L : List (Int × Int)}
theorem RS.only (h : RS w r G n last v L) (k : Only S w w') (hn : ∀ i, G i → ¬ S i) : RS w' r G n last v L :=
  ⟨k.blk h.blk (hn r h.gr), Row.only h.row k (fun q hq => hn q (Row.own h.row hq).1), h.gr, fun i hi => Nat.lt_of_lt_of_le (h.flt i hi) k.size⟩
theorem RS.now (h : RS w r G n last v L) : w.cell? ⟨r, 0, none⟩ = some (.int .i64 n) := cell_at h.blk 0 rfl
theorem RS.lst (h : RS w r G n last v L) : w.cell? ⟨r, 1, none⟩ = some (.int .i64 last) := cell_at h.blk 1 rfl
theorem RS.val (h : RS w r G n last v L) : w.cell? ⟨r, 2, none⟩ = some v := cell_at h.blk 2 rfl
theorem RS.frozen (h : RS w r G n last v L) (k : Nat) : w.frozen? ⟨r, k, none⟩ = false := blk_frozen h.blk k
theorem RS.ne (h : RS w r G n last v L) : ¬ v.ownBlock = some r := Row.ne h.row h.blk (by decide)
end

/-- What find tells. -/
def At (L : List (Int × Int)) (k : Int) (i : Int) : Prop := (∃ (j : Nat) (p : Int × Int), i = (j : Int) ∧ L[j]? = some p ∧ p.2 = k) ∨ (i = -1 ∧ ∀ p ∈ L, p.2 ≠ k)

set_option maxHeartbeats 4000000 in
set_option maxRecDepth 100000 in
theorem find_p {w : World} {r : Nat} {G : Nat → Prop} {n last : Int} {v : Value} {L : List (Int × Int)} (k : Int) (h : RS w r G n last v L) (hL : L.length ≤ 10000) :
    Calls Try.prog 46 #[.pointer (some ⟨r, 0, none⟩), .int .i64 k] w fun e w' => (∃ i, e = .returned (.int .i64 i) ∧ At L k i) ∧ w = w' := by
  have HR := Lib.hid h
  obtain ⟨A, c, hv, _⟩ := Row.form h.row
  obtain ⟨N, hN⟩ : ∃ N, N = L.length := ⟨_, rfl⟩
  rw [← hN] at hv
  subst hv
  have HN := Lib.hid hN
  have hx := h.val
  have hNb : N ≤ 10000 := by omega
  clear h hL hN
  go_enter Try.func46, Try.ntmps46
  go_wp2
  go_loopw [5] (fun v5 wr => ∃ (i : Nat), v5 = .int .i64 (i : Int) ∧ i ≤ N ∧ Hid (∀ p ∈ L.take i, p.2 ≠ k) ∧ wr = w) (fun v5 _ => N - (RowKit.intOf v5).toNat)
  case atStart => exact ⟨0, rfl, Nat.zero_le _, Lib.hid (by simp), rfl⟩
  case round =>
    obtain ⟨i, rfl, hi, HI, rfl⟩ := hrel
    have hgo : i < N ∨ i = N := by omega
    rcases hgo with hlt | rfl
    · have hlt' : (i : Int) < (N : Int) := by omega
      have hio : i < L.length := by rw [← HN.out]; exact hlt
      have hge : L[i]? = some L[i] := List.getElem?_eq_getElem hio
      obtain ⟨p, hp⟩ : ∃ p, p = L[i] := ⟨_, rfl⟩
      rw [← hp] at hge
      have hrow := HR.out.row
      unfold Rs at hrow
      rw [← HN.out] at hrow
      obtain ⟨q, o, c2, hs, _⟩ := Row.some_ hrow (by omega)
      injection hs with s1 s2 s3
      subst s1 s3
      have hx1 : wr.cell? ⟨q, o + i * 2 + 1, none⟩ = some (.int .i64 p.2) := Row.cell hrow (i * 2 + 1) (by have := encP_at L i 1 p hge (by decide); exact this)
      have HGE := Lib.hid hge
      clear hge hrow hio hp
      by_cases he : p.2 = k
      · have hb : (p.2 == k) = true := by simp [he]
        have HE := Lib.hid he
        clear he
        go_wp2
        go_ret
        exact ⟨⟨_, rfl, .inl ⟨i, p, rfl, HGE.out, HE.out⟩⟩, rfl⟩
      · have hb : (p.2 == k) = false := by simpa using he
        have HE := Lib.hid he
        clear he
        go_wp2
        go_roundw
        case rel =>
          refine ⟨i + 1, by go_num, by omega, Lib.hid (fun x hx => ?_), trivial⟩
          rw [List.take_add_one, HGE.out] at hx
          rcases List.mem_append.1 hx with h1 | h1
          · exact HI.out x h1
          · simp at h1; rw [h1]; exact HE.out
        case measure => simp [RowKit.intOf]; omega
    · have hge : ¬ (i : Int) < i := by omega
      go_wp2
      go_ret
      exact ⟨⟨_, rfl, .inr ⟨rfl, by have h := HI.out; rw [HN.out, List.take_length] at h; exact h⟩⟩, rfl⟩

end Go.Proofs.Ytkjokpmlnnjmoaa.Wh

/- The reference's Bad, and what it has to do with the breaker's last results. -/
import Derived.Test.YtocbnfpnbgpfjaaBrkR
set_option linter.unusedVariables false
set_option linter.unusedSimpArgs false
namespace Go.Proofs.Ytocbnfpnbgpfjaa.Brk
open Go.RowKit Go.Proofs.Ytocbnfpnbgpfjaa.Base Go.Proofs.YtocbnfpnbgpfjaaW.PrintWords Go.Proofs.YtocbnfpnbgpfjaaW.PrintMore
attribute [local go_sem] max2_mx min2_mn max_two min_two max_three min_three max_four min_four

/-- The last so many. -/
def lastS (s : Int) (l : List Bool) : List Bool := l.drop (l.length - s.toNat)

theorem lastOf_eq (s : Int) (l : List Bool) (b : Bool) (hs : 1 ≤ s) : lastOf s l b = lastS s (l ++ [b]) := by
  unfold lastOf lastS
  congr 1
  rw [List.length_append, List.length_singleton]
  rcases mx_cases ((l.length : Int) + 1 - s) 0 with h | h <;> omega

theorem lastOf_lastS (s : Int) (L : List Bool) (b : Bool) (hs : 1 ≤ s) : lastOf s (lastS s L) b = lastS s (L ++ [b]) := by
  rw [lastOf_eq s _ b hs]
  unfold lastS
  have h1 : L.drop (L.length - s.toNat) ++ [b] = (L ++ [b]).drop (L.length - s.toNat) := by
    rw [List.drop_append_of_le_length (by omega)]
  rw [h1, List.drop_drop]
  congr 1
  simp only [List.length_drop, List.length_append, List.length_singleton]
  omega

/-- Cells that hold a list of results. -/
def Bl (w : World) (A : Option Addr) (l : List Bool) : Prop := ∀ (i : Nat) (b : Bool), l[i]? = some b → ∃ a, A = some a ∧ w.cell? (a.add i) = some (.bool b)

theorem Bl.take {w : World} {A : Option Addr} {l : List Bool} (h : Bl w A l) (k : Nat) : Bl w A (l.take k) := fun i b hb => by
  rw [List.getElem?_take] at hb
  split at hb
  · exact h i b hb
  · cases hb

theorem Bl.below {w w' : World} {A : Option Addr} {l : List Bool} (h : Bl w A l) (k : Below w.heap.size w w') : Bl w' A l := fun i b hb => by
  obtain ⟨a, ha, hc⟩ := h i b hb
  exact ⟨a, ha, (k.cell (World.block_lt_of_cell? w _ hc)).trans hc⟩

theorem bools_of {w : World} {A : Option Addr} {len : Nat} (h : ∀ i, i < len → ∃ a, A = some a ∧ ∀ o k, (o, k) ∈ [(0, Args.Bs.bool)] → ∃ v, w.cell? (a.add (i * Try.prog.cellsOf 4 + o)) = some v ∧ k.fit v) :
    ∃ l : List Bool, len = l.length ∧ Bl w A l := by
  have hone : Try.prog.cellsOf 4 = 1 := by kernel_rfl
  have h2 : ∀ i, ∃ b : Bool, i < len → ∃ a, A = some a ∧ w.cell? (a.add i) = some (.bool b) := by
    intro i
    by_cases hi : i < len
    · obtain ⟨a, hA, hc⟩ := h i hi
      rw [hone, Nat.mul_one] at hc
      obtain ⟨v, hv, b, rfl⟩ := hc 0 .bool (by simp)
      exact ⟨b, fun _ => ⟨a, hA, hv⟩⟩
    · exact ⟨false, fun hh => absurd hh hi⟩
  obtain ⟨f, hf⟩ := Classical.axiomOfChoice h2
  refine ⟨(List.range len).map f, by simp, fun i b hb => ?_⟩
  have hi : i < len := by simpa using (List.getElem?_eq_some_iff.1 hb).1
  rw [List.getElem?_map, List.getElem?_range hi] at hb
  simp only [Option.map_some, Option.some.injEq] at hb
  exact hb ▸ hf i hi

theorem LastB.bl {w : World} {base : Nat → Prop} {v : Value} {l : List Bool} (h : LastB w base v l) : ∃ A c, v = .slice A l.length c ∧ Bl w A l := by
  rcases h with ⟨rfl, rfl⟩ | ⟨q, o, c, cells, rfl, hq, hh, h1, h2, h3⟩
  · exact ⟨none, 0, rfl, fun i b hb => by simp at hb⟩
  · exact ⟨_, _, rfl, fun i b hb => ⟨_, rfl, by rw [Addr.add_lit]; exact cell_at hh (o + i) (h3 i b hb)⟩⟩

/-- How many of the first i are not good, behind the first k. -/
def cnt (k : Nat) (l : List Bool) (i : Nat) : Int := bads ((l.take i).drop k)

theorem cnt_zero (k : Nat) (l : List Bool) : cnt k l 0 = 0 := by simp [cnt, bads]

theorem cnt_low {k i : Nat} (l : List Bool) (h : i + 1 ≤ k) : cnt k l (i + 1) = cnt k l i := by
  unfold cnt
  rw [List.drop_eq_nil_of_le (by rw [List.length_take]; omega), List.drop_eq_nil_of_le (by rw [List.length_take]; omega)]

theorem cnt_high {k i : Nat} {l : List Bool} {b : Bool} (h : k ≤ i) (hb : l[i]? = some b) : cnt k l (i + 1) = cnt k l i + (if b then 0 else 1) := by
  unfold cnt
  have hi : i < l.length := (List.getElem?_eq_some_iff.1 hb).1
  rw [List.take_add_one, hb, Option.toList_some, List.drop_append_of_le_length (by rw [List.length_take]; omega), bads_snoc]

theorem cnt_all (s : Int) (l : List Bool) : cnt (l.length - s.toNat) l l.length = bads (lastS s l) := by
  unfold cnt lastS
  rw [List.take_length]

theorem cnt_le (k : Nat) (l : List Bool) (i : Nat) : 0 ≤ cnt k l i ∧ cnt k l i ≤ i := by
  have := bads_le ((l.take i).drop k)
  rw [List.length_drop, List.length_take] at this
  unfold cnt
  omega

set_option maxHeartbeats 1000000 in
theorem bad_r (A : Option Addr) (n c : Nat) (l : List Bool) (s : Int) (w : World) (hA : Bl w A l) (hn : n = l.length) (hl : n ≤ 1000) (hs : 1 ≤ s ∧ s ≤ 64) :
    Calls Try.prog 17 #[.slice A n c, .int .i64 s] w fun e w' => e = .returned (.int .i64 (bads (lastS s l))) ∧ w = w' := by
  have HA := Lib.hid hA
  have HN := Lib.hid hn
  obtain ⟨hs1, hs2⟩ := hs
  have hw : wrap64 ((n : Int) - s) = (n : Int) - s := by unfold wrap64; omega
  have hw2 : IntKind.i64.wrap ((n : Int) - s) = (n : Int) - s := (wrap_i64 _).trans hw
  clear hA hn
  go_enter Try.func17, Try.ntmps17
  go_wp2
  go_loopw [5, 6] (fun vn vi wr => ∃ i : Nat, vn = .int .i64 (cnt (l.length - s.toNat) l i) ∧ vi = .int .i64 (i : Int) ∧ i ≤ n ∧ w = wr) (fun _ vi _ => n - (intOf vi).toNat)
  case atStart => exact ⟨0, by rw [cnt_zero], rfl, by omega, rfl⟩
  case round =>
    obtain ⟨i, rfl, rfl, hi, rfl⟩ := hrel
    have hgo : i < n ∨ i = n := by omega
    rcases hgo with hlt | rfl
    · have hlt' : (i : Int) < n := by omega
      obtain ⟨b, hb⟩ : ∃ b, l[i]? = some b := ⟨l[i]'(by have := HN.out; omega), List.getElem?_eq_getElem _⟩
      obtain ⟨a, hAa, hc⟩ := HA.out i b hb
      cases hAa
      have hbd := cnt_le (l.length - s.toNat) l i
      have hcb := HN.out
      by_cases hk : (n : Int) - s ≤ i
      · have HT := Lib.hid (cnt_high (k := l.length - s.toNat) (by omega) hb)
        have hb0 : 0 ≤ cnt (l.length - s.toNat) l i ∧ cnt (l.length - s.toNat) l i ≤ 1000 := by omega
        generalize cnt (l.length - s.toNat) l i = m at *
        obtain ⟨hb1, hb2⟩ := hb0
        have hwm : wrap64 (m + 1) = m + 1 := by unfold wrap64; omega
        clear hb hbd hcb
        cases b
        · go_wp2
          go_roundw
          case rel => exact ⟨i + 1, by rw [HT.out]; simp only [Bool.false_eq_true, if_false], by go_num, by omega, by trivial⟩
          case measure => simp [intOf]; omega
        · go_wp2
          go_roundw
          case rel => exact ⟨i + 1, by rw [HT.out]; simp, by go_num, by omega, by trivial⟩
          case measure => simp [intOf]; omega
      · have HT := Lib.hid (cnt_low (k := l.length - s.toNat) (i := i) l (by omega))
        generalize cnt (l.length - s.toNat) l i = m at *
        clear hb hbd hcb
        go_wp2
        go_roundw
        case rel => exact ⟨i + 1, by rw [HT.out], by go_num, by omega, by trivial⟩
        case measure => simp [intOf]; omega
    · have HE : Hid (cnt (l.length - s.toNat) l i = bads (lastS s l)) := Lib.hid (by rw [HN.out, cnt_all])
      rw [HE.out]
      go_wp2
      go_ret
      exact ⟨rfl, rfl⟩

end Go.Proofs.Ytocbnfpnbgpfjaa.Brk

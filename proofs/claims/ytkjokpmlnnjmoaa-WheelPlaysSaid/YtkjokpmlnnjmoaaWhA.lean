/- Wheel: Add, Time. -/
import Derived.Test.YtkjokpmlnnjmoaaWhE
import Derived.Test.YtkjokpmlnnjmoaaWhL
import Derived.Test.YtkjokpmlnnjmoaaWhQ
import Derived.Deep.RegionHeld3
set_option linter.unusedVariables false
set_option linter.unusedSimpArgs false
namespace Go.Proofs.Ytkjokpmlnnjmoaa.Wh
open Go.RowKit Go.Maps Go.Proofs.Ytkjokpmlnnjmoaa.Base Go.Proofs.Ytkjokpmlnnjmoaa.Rws Go.Proofs.YtkjokpmlnnjmoaaW.PrintWords Go.Proofs.YtkjokpmlnnjmoaaW.PrintMore
attribute [local go_sem] max2_mx min2_mn max_two min_two max_three min_three max_four min_four

theorem add_nil (x : Int) (w : World) : Calls Try.prog 11 #[.pointer none, .int .i64 x] w fun e w' => e = .returned (.tuple #[.int .i64 0, .int .i64 1]) ∧ w = w' := by
  go_enter Try.func11, Try.ntmps11
  go_wp2_with (go_at_call 22; refine (none_nil _).mono ?_; rintro e w' ⟨rfl, rfl⟩)
  go_ret2
  exact ⟨rfl, rfl⟩

theorem add_full {w : World} {g b : Nat} {n last : Int} {vals : Nat → Value} {L : List Tm} (x : Int) (h : WB w g b n last vals) (hm : TM w b L) (hl : L.length = 4096) : Calls Try.prog 11 #[.pointer (some ⟨g, 0, none⟩), .int .i64 x] w fun e w' => e = .returned (.tuple #[.int .i64 0, .int .i64 6]) ∧ w = w' := by
  have hc := h.mapc
  have H := Lib.hid h
  obtain ⟨D, ho, hd⟩ := hm
  have hl : (Builtin.len_ #[53] 3 #[.map (some b)]).run Try.prog w = .ok (.int .i64 4096) w := by
    have := ho.len Try.underlying53 3
    rw [hd.size, hl] at this
    exact this
  clear h ho hd
  go_enter Try.func11, Try.ntmps11
  go_wp2_with (go_at_call 22; refine (none_p H.out).mono ?_; rintro e w' ⟨rfl, rfl⟩)
  go_ret2
  exact ⟨rfl, rfl⟩

set_option maxHeartbeats 4000000 in
set_option maxRecDepth 100000 in
theorem add_p {w : World} {g b : Nat} {F : Nat → Prop} {n last : Int} {L : List Tm} {vals : Nat → Value} {rows : Nat → List Int} (x : Int) (hs : WS w g b F n last L vals rows) (hn : cl n = n) (h0 : 0 ≤ last) (h1 : last ≤ 1000000) (hl : ∀ i, (rows i).length ≤ 10000) (hL : L.length < 4096) :
    Calls Try.prog 11 #[.pointer (some ⟨g, 0, none⟩), .int .i64 x] w fun e w' => e = .returned (.tuple #[.int .i64 (last + 1), .int .i64 0]) ∧ PostW w g b F n (last + 1) (putL n L ⟨cl x, last + 1, 0, 0⟩) (putRows n rows ⟨cl x, last + 1, 0, 0⟩) w' := by
  have HS := Lib.hid hs
  obtain ⟨D, ho, hd⟩ := hs.map
  have hlen : (Builtin.len_ #[53] 3 #[.map (some b)]).run Try.prog w = .ok (.int .i64 (L.length : Nat)) w := by
    rw [← hd.size]
    exact ho.len Try.underlying53 3
  obtain ⟨K, hK⟩ : ∃ K, K = L.length := ⟨_, rfl⟩
  rw [← hK] at hlen
  have hlt : (K : Int) < 4096 := by omega
  have hc := hs.blk.mapc
  have hla := hs.blk.lst
  have hfl := hs.blk.frozen 1
  have HX : Hid (∀ w, Calls Try.prog 21 #[.int .i64 x] w fun e w' => e = .returned (.int .i64 (cl x)) ∧ w = w') := Lib.hid (fun w => clamp_p x w)
  have HC : Hid (cl (cl x) = cl x) := Lib.hid (cl_same _ (cl_bounds x).1 (cl_bounds x).2)
  obtain ⟨y, hy⟩ : ∃ y, y = cl x := ⟨_, rfl⟩
  rw [← hy] at HX HC ⊢
  have HKL : Hid (L.length ≤ 10000) := Lib.hid (by omega)
  have HN := Lib.hid hn
  have HR := Lib.hid hl
  obtain ⟨w1, hw1⟩ : ∃ w1, w1 = w.setCell ⟨g, 1, none⟩ (.int .i64 (last + 1)) := ⟨_, rfl⟩
  have ho1 : Only (fun k => k = g) w w1 := by rw [hw1]; exact (Only.refl (fun k => k = g) w).setCell (p := ⟨g, 1, none⟩) (.inl rfl) _
  have hgb : g ≠ b := by obtain ⟨cs5, hcs5⟩ := hs.blk.isBlk; exact hs.map.ne hcs5
  have hs1 : WS w1 g b F n (last + 1) L vals rows := by
    obtain ⟨cs5, hcs5⟩ := hs.blk.isBlk
    refine ⟨by rw [hw1]; exact hs.blk.setLast _, hs.map.only ho1 (fun e => hgb e.symm), fun i hi => Row.only (hs.row i hi) ho1 (fun q hq e => Ks.ne (hs.row i hi) hcs5 (by decide) (by rw [hq, e])), hs.ap, hs.fg, hs.fb, fun k hk => Nat.lt_of_lt_of_le (hs.flt k hk) ho1.size⟩
  have HS1 := Lib.hid hs1
  have HO1 := Lib.hid ho1
  have hb1 := hs1.blk.lst
  have HW1 : Hid (Only F w w1) := Lib.hid (ho1.mono (fun k hk => by rw [hk]; exact hs.fg))
  have HP : Hid (Calls Try.prog 23 #[.pointer (some ⟨g, 0, none⟩), .agg #[.int .i64 y, .int .i64 (last + 1), .int .i64 0, .int .i64 0]] w1.drew fun e w' => e = .returned (.tuple #[]) ∧ PostW w1.drew g b F n (last + 1) (putL n L ⟨y, last + 1, 0, 0⟩) (putRows n rows ⟨y, last + 1, 0, 0⟩) w') :=
    Lib.hid (put_p (hs1.only ((Only.refl (fun _ => False) w1).drew) (fun _ _ h => h)) ⟨y, last + 1, 0, 0⟩ hn HC.out (wf64 (x := last + 1) (by omega) (by omega)) hl HKL.out)
  clear hs ho hd hy hn hl hL hK ho1 hgb hs1
  go_enter Try.func11, Try.ntmps11
  go_wp2_with (go_at_call 22; refine (none_p HS.out.blk).mono ?_; rintro e w' ⟨rfl, rfl⟩)
  rw [← hw1]
  clear hc hla hfl hlen hlt hw1
  go_region_held3 (fun w' => w'.cell? ⟨g, 1, none⟩ = some (.int .i64 (last + 1))) (first | exact hz' | exact hb1) (first | (go_at_call 21; refine (HX.out _).mono ?_; rintro e w' ⟨rfl, rfl⟩) | (go_at_call 23; refine HP.out.mono ?_; rintro e w' ⟨rfl, F', vals', hW', hF', hO'⟩; have hz' := hW'.blk.lst; have HZ' := Lib.hid hW'; have HF' := Lib.hid hF'; have HO' := Lib.hid hO'; clear hW' hF' hO'))
  all_goals
    go_wp2
    go_ret2
    exact ⟨rfl, F', vals', HZ'.out, fun k hk => (HF'.out k hk).imp id (fun h => Nat.le_trans HO1.out.size h), HW1.out.drew.trans HO'.out⟩

theorem time_nil (x : Int) (w : World) : Calls Try.prog 20 #[.pointer none, .int .i64 x] w fun e w' => e = .returned (.tuple #[.int .i64 0, .bool false]) ∧ w = w' := by
  go_enter Try.func20, Try.ntmps20
  go_wp2_with (go_at_call 22; refine (none_nil _).mono ?_; rintro e w' ⟨rfl, rfl⟩)
  go_ret2
  exact ⟨rfl, rfl⟩

set_option maxHeartbeats 4000000 in
theorem time_p {w : World} {g b : Nat} {n last : Int} {vals : Nat → Value} {L : List Tm} (k : Int) (hk : (Lit.int .i64 k).wf = true) (h : WB w g b n last vals) (hm : TM w b L) : Calls Try.prog 20 #[.pointer (some ⟨g, 0, none⟩), .int .i64 k] w fun e w' => ((∃ t ∈ L, t.h = k ∧ e = .returned (.tuple #[.int .i64 t.at_, .bool true])) ∨ ((∀ t ∈ L, t.h ≠ k) ∧ e = .returned (.tuple #[.int .i64 0, .bool false]))) ∧ Only (fun _ => False) w w' := by
  have hc := h.mapc
  have H := Lib.hid h
  rcases hm.look_ok k hk with ⟨t, ht, hh, hlk⟩ | ⟨hno, hlk⟩
  · have HT := Lib.hid ht
    have HH := Lib.hid hh
    obtain ⟨a, h', l, s⟩ := t
    unfold Tm.v at hlk
    have y0 := box_cell w #[.int .i64 a, .int .i64 h', .int .i64 l, .int .i64 s] 60 0 rfl
    clear h hm ht hh hk
    go_enter Try.func20, Try.ntmps20
    go_wp2_with (go_at_call 22; refine (none_p H.out).mono ?_; rintro e w' ⟨rfl, rfl⟩)
    go_ret2
    exact ⟨.inl ⟨⟨a, h', l, s⟩, HT.out, HH.out, rfl⟩, (Only.refl _ w).alloc _⟩
  · have HN := Lib.hid hno
    unfold Tm.v at hlk
    have y0 := box_cell w #[.int .i64 0, .int .i64 0, .int .i64 0, .int .i64 0] 60 0 rfl
    clear h hm hno hk
    go_enter Try.func20, Try.ntmps20
    go_wp2_with (go_at_call 22; refine (none_p H.out).mono ?_; rintro e w' ⟨rfl, rfl⟩)
    go_ret2
    exact ⟨.inr ⟨HN.out, rfl⟩, (Only.refl _ w).alloc _⟩

end Go.Proofs.Ytkjokpmlnnjmoaa.Wh

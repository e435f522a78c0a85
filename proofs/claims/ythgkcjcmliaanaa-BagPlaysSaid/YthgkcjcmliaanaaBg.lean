/- The contracts of bag's functions. -/
import Derived.Test.YthgkcjcmliaanaaProg
import Derived.Test.YthgkcjcmliaanaaBase
import Derived.Test.YthgkcjcmliaanaaRws
import Derived.WalkSpells
import Derived.Lib.SlFresh
import Derived.Deep.RegionLaw
set_option linter.unusedVariables false
set_option linter.unusedSimpArgs false
namespace Go.Proofs.Ythgkcjcmliaanaa.Bg
open Go.RowKit Go.Proofs.Ythgkcjcmliaanaa.Base Go.Proofs.Ythgkcjcmliaanaa.Rws Go.Proofs.YthgkcjcmliaanaaW.PrintWords Go.Proofs.YthgkcjcmliaanaaW.PrintMore
attribute [local go_sem] max2_mx min2_mn max_two min_two max_three min_three max_four min_four

/-- A result that lies in a box, and one beside it. -/
theorem results_cell2 {P : Program} {fn : Func} {p u : Tmp} {ty : TypeId} (h : fn.results = #[.cell p ty, .tmp u]) (tmps : Array Value) (w : World) (g : Nat) (t : TypeId) (cs : Array Value) (fr : Nat × Nat) (d : TypeDesc)
    (hp : tmps.getD p undef = .pointer (some ⟨g, 0, none⟩)) (hg : w.heap[g]? = some (.cells cs t fr))
    (hu : P.underlying ty = some d) (hd : (match d with | .struct _ | .array _ _ => true | _ => false) = true) (hi : (P.info? ty).map (·.size) = some cs.size) :
    (results fn tmps).run P w = .ok (.tuple #[.agg cs, tmps.getD u undef]) w := by
  have hp' : tmps[p]?.getD undef = .pointer (some ⟨g, 0, none⟩) := by simpa using hp
  simp [results, h, hp', asAddr, run_loadVar_row w g t ty cs fr d hg hu hd hi]

/-- A flight. -/
structure Fl where
  f : Int
  t : Int
  s : ByteArray
  h : Bool

def Fl.v (x : Fl) : Value := .agg #[.int .i64 x.f, .int .i64 x.t, .string x.s, .bool x.h]
def fl0 : Fl := ⟨0, 0, ⟨#[]⟩, false⟩
def encF (x : Fl) : List Value := [.int .i64 x.f, .int .i64 x.t, .string x.s, .bool x.h]

theorem encF_at : ∀ (L : List Fl) (i j : Nat) (p : Fl), L[i]? = some p → j < 4 → (L.flatMap encF)[i * 4 + j]? = (encF p)[j]?
  | [], i, j, p, h, _ => by simp at h
  | q :: L, 0, j, p, h, hj => by
    simp at h
    subst h
    rw [List.flatMap_cons, List.getElem?_append_left (by simp [encF]; omega)]
    congr 1
    omega
  | q :: L, i + 1, j, p, h, hj => by
    have := encF_at L i j p (by simpa using h) hj
    rw [List.flatMap_cons, List.getElem?_append_right (by simp [encF]; omega), ← this]
    congr 1
    simp [encF]
    omega

/-- The bag's block: its flights' slice, and how many were lost. -/
def BG (w : World) (g : Nat) (v : Value) (lost : Int) : Prop := w.heap[g]? = some (.cells #[v, .int .i64 lost] 49 (0, 0))
def Fls (w : World) (P : Nat → Prop) (v : Value) (L : List Fl) : Prop := Row 4 29 w P v L.length (L.flatMap encF)

theorem look_nil (k : Int) (w : World) : Calls Try.prog 13 #[.pointer none, .int .i64 k] w fun e w' => e = .returned (.tuple #[fl0.v, .int .i64 1]) ∧ Only (fun _ => False) w w' := by
  go_enter Try.func13, Try.ntmps13
  go_wp2
  (try simp only [Exit.inBlock, Exit.then])
  refine bodyPost_ret (results_cell2 rfl _ _ w.heap.size 29 _ (0, 0) _ rfl (heap_alloc_new w _) Try.underlying29 rfl (by kernel_rfl)) rfl ⟨rfl, (Only.refl _ w).alloc _⟩

/-- What a look tells. -/
def lookF (L : List Fl) (k : Int) : Fl × Int := if k < 0 then (fl0, 7) else match L[k.toNat]? with | some x => (x, 0) | none => (fl0, 7)

set_option maxHeartbeats 1000000 in
theorem look_p {g : Nat} {v : Value} {lost : Int} {P : Nat → Prop} {L : List Fl} (w : World) (hb : BG w g v lost) (hL : Fls w P v L) (k : Int) :
    Calls Try.prog 13 #[.pointer (some ⟨g, 0, none⟩), .int .i64 k] w fun e w' => e = .returned (.tuple #[(lookF L k).1.v, .int .i64 (lookF L k).2]) ∧ Only (fun _ => False) w w' := by
  obtain ⟨A, c, rfl, hnc⟩ := hL.form
  obtain ⟨n, hn⟩ : ∃ n, n = L.length := ⟨_, rfl⟩
  have HN := Lib.hid hn
  have HO : Hid (Only (fun _ => False) w (w.alloc (.cells #[.int .i64 0, .int .i64 0, .string ⟨#[]⟩, .bool false] 29))) := Lib.hid ((Only.refl _ w).alloc _)
  have HB := Lib.hid (HO.out.blk hb (fun h => h))
  have HL := Lib.hid (hL.only HO.out (fun _ _ h => h))
  rw [← hn] at HB HL
  have hc0 : (w.alloc (.cells #[.int .i64 0, .int .i64 0, .string ⟨#[]⟩, .bool false] 29)).cell? ⟨g, 0, none⟩ = some (.slice A n c) := cell_at HB.out 0 rfl
  clear hb hL hn
  by_cases hk : k < 0
  · have HE : Hid (lookF L k = (fl0, 7)) := Lib.hid (if_pos hk)
    rw [HE.out]
    go_enter Try.func13, Try.ntmps13
    go_wp2
    (try simp only [Exit.inBlock, Exit.then])
    exact bodyPost_ret (results_cell2 rfl _ _ w.heap.size 29 _ (0, 0) _ rfl (heap_alloc_new w _) Try.underlying29 rfl (by kernel_rfl)) rfl ⟨rfl, (Only.refl _ w).alloc _⟩
  · obtain ⟨k, rfl⟩ := Int.eq_ofNat_of_zero_le (by omega : 0 ≤ k)
    by_cases hkn : k < n
    · have hkn' : ¬ (n : Int) ≤ k := by omega
      have hkn2 : (k : Int) < n := by omega
      obtain ⟨x, hx⟩ : ∃ x, L[k]? = some x := ⟨L[k]'(by have := HN.out; omega), List.getElem?_eq_getElem _⟩
      have HE : Hid (lookF L (k : Int) = (x, 0)) := Lib.hid (by unfold lookF; rw [if_neg hk, Int.toNat_natCast, hx])
      obtain ⟨q, o, c', hv, _⟩ := HL.out.some_ (by omega)
      injection hv with e1 e2 e3
      subst e1 e3
      have hd0 : (w.alloc (.cells #[.int .i64 0, .int .i64 0, .string ⟨#[]⟩, .bool false] 29)).cell? ⟨q, o + k * 4, none⟩ = some (.int .i64 x.f) := HL.out.cell (k * 4) (encF_at L k 0 _ hx (by omega))
      have hd1 : (w.alloc (.cells #[.int .i64 0, .int .i64 0, .string ⟨#[]⟩, .bool false] 29)).cell? ⟨q, o + k * 4 + 1, none⟩ = some (.int .i64 x.t) := HL.out.cell (k * 4 + 1) (encF_at L k 1 _ hx (by omega))
      have hd2 : (w.alloc (.cells #[.int .i64 0, .int .i64 0, .string ⟨#[]⟩, .bool false] 29)).cell? ⟨q, o + k * 4 + 2, none⟩ = some (.string x.s) := HL.out.cell (k * 4 + 2) (encF_at L k 2 _ hx (by omega))
      have hd3 : (w.alloc (.cells #[.int .i64 0, .int .i64 0, .string ⟨#[]⟩, .bool false] 29)).cell? ⟨q, o + k * 4 + 3, none⟩ = some (.bool x.h) := HL.out.cell (k * 4 + 3) (encF_at L k 3 _ hx (by omega))
      clear hx
      rw [HE.out]
      go_enter Try.func13, Try.ntmps13
      go_wp2
      (try simp only [Exit.inBlock, Exit.then])
      exact bodyPost_ret (results_cell2 rfl _ _ w.heap.size 29 _ (0, 0) _ rfl (heap_alloc_new w _) Try.underlying29 rfl (by kernel_rfl)) rfl ⟨rfl, (Only.refl _ w).alloc _⟩
    · have hkn' : (n : Int) ≤ k := by omega
      have HE : Hid (lookF L (k : Int) = (fl0, 7)) := Lib.hid (by unfold lookF; rw [if_neg hk, Int.toNat_natCast, List.getElem?_eq_none (by have := HN.out; omega)])
      rw [HE.out]
      go_enter Try.func13, Try.ntmps13
      go_wp2
      (try simp only [Exit.inBlock, Exit.then])
      exact bodyPost_ret (results_cell2 rfl _ _ w.heap.size 29 _ (0, 0) _ rfl (heap_alloc_new w _) Try.underlying29 rfl (by kernel_rfl)) rfl ⟨rfl, (Only.refl _ w).alloc _⟩

theorem new_p (w : World) : Calls Try.prog 7 #[] w fun e w' => e = .returned (.pointer (some ⟨w.heap.size, 0, none⟩)) ∧ BG w' w.heap.size (.slice none 0 0) 0 ∧ Only (fun _ => False) w w' := by
  go_enter Try.func7, Try.ntmps7
  go_wp2
  go_ret
  exact ⟨rfl, heap_alloc_new w _, (Only.refl _ w).alloc _⟩

theorem len_nil (w : World) : Calls Try.prog 12 #[.pointer none] w fun e w' => e = .returned (.int .i64 0) ∧ w = w' := by
  go_enter Try.func12, Try.ntmps12
  go_wp2
  go_ret
  exact ⟨rfl, rfl⟩

theorem lost_nil (w : World) : Calls Try.prog 15 #[.pointer none] w fun e w' => e = .returned (.int .i64 0) ∧ w = w' := by
  go_enter Try.func15, Try.ntmps15
  go_wp2
  go_ret
  exact ⟨rfl, rfl⟩

theorem len_p {g : Nat} {v : Value} {lost : Int} {P : Nat → Prop} {L : List Fl} (w : World) (hb : BG w g v lost) (hL : Fls w P v L) :
    Calls Try.prog 12 #[.pointer (some ⟨g, 0, none⟩)] w fun e w' => e = .returned (.int .i64 (L.length : Int)) ∧ w = w' := by
  obtain ⟨A, c, rfl, hnc⟩ := hL.form
  have hc0 : w.cell? ⟨g, 0, none⟩ = some (.slice A L.length c) := cell_at hb 0 rfl
  clear hb hL
  go_enter Try.func12, Try.ntmps12
  go_wp2
  go_ret
  exact ⟨rfl, rfl⟩

theorem lost_p {g : Nat} {v : Value} {lost : Int} (w : World) (hb : BG w g v lost) :
    Calls Try.prog 15 #[.pointer (some ⟨g, 0, none⟩)] w fun e w' => e = .returned (.int .i64 lost) ∧ w = w' := by
  have hc1 : w.cell? ⟨g, 1, none⟩ = some (.int .i64 lost) := cell_at hb 1 rfl
  clear hb
  go_enter Try.func15, Try.ntmps15
  go_wp2
  go_ret
  exact ⟨rfl, rfl⟩

theorem send_nil (x : Fl) (w : World) : Calls Try.prog 8 #[.pointer none, x.v] w fun e w' => e = .returned (.int .i64 1) ∧ Only (fun _ => False) w w' := by
  unfold Fl.v
  go_enter Try.func8, Try.ntmps8
  go_wp2
  go_ret
  exact ⟨rfl, (Only.refl _ w).alloc _⟩

theorem info29 : (Try.prog.info? 29).map (fun i => (i.zero, i.size, i.bytes)) = some (some (.agg #[.int .i64 0, .int .i64 0, .string ByteArray.empty, .bool false]), 4, 40) := by kernel_rfl

/-- A flight is put behind flights. -/
theorem Fls.app {W : World} {P : Nat → Prop} {v : Value} {L : List Fl} (h : Fls W P v L) (hP : ∀ k, W.heap.size ≤ k → P k) (hl : L.length ≤ 2000) (x : Fl) (ty : TypeId) :
    ∃ v1 w1, (Builtin.append_ #[47, 47] ty #[v, .slice (some ⟨W.heap.size, 0, none⟩) 1 1]).run Try.prog (W.alloc (.cells #[.int .i64 x.f, .int .i64 x.t, .string x.s, .bool x.h] 29)) = .ok v1 w1 ∧ Fls w1 P v1 (L ++ [x]) ∧ Only (fun k => v.ownBlock = some k) W w1 := by
  have hO : Only (fun k => v.ownBlock = some k) W (W.alloc (.cells #[.int .i64 x.f, .int .i64 x.t, .string x.s, .bool x.h] 29)) := (Only.refl _ W).alloc _
  have hnew := heap_alloc_new W (.cells #[.int .i64 x.f, .int .i64 x.t, .string x.s, .bool x.h] 29)
  have hrow : Row 4 29 (W.alloc (.cells #[.int .i64 x.f, .int .i64 x.t, .string x.s, .bool x.h] 29)) P v L.length (L.flatMap encF) := Row.keep h (fun g _ hg => heap_alloc_old W _ hg)
  have hsz : (W.alloc (.cells #[.int .i64 x.f, .int .i64 x.t, .string x.s, .bool x.h] 29)).heap.size = W.heap.size + 1 := by show (W.heap.push _).size = _; simp
  generalize W.alloc (.cells #[.int .i64 x.f, .int .i64 x.t, .string x.s, .bool x.h] 29) = W1 at *
  obtain ⟨v1, w1, hr, hR, ho⟩ := Row.app (ty := ty) hrow Try.underlying47 info29 (by rfl) (fun k hk => hP k (by omega)) ⟨W.heap.size, 0, none⟩ 1 1 (encF x) (by simp [encF]) (fun i u hu => by
    rw [Addr.add_lit, Nat.zero_add]
    refine cell_at hnew i ?_
    simpa [encF] using hu) (by simp [encF, Value.oneCell']) (by omega) (by omega) (by omega)
  refine ⟨v1, w1, hr, ?_, hO.trans ho⟩
  unfold Fls
  rw [List.length_append, List.length_singleton, List.flatMap_append]
  simpa using hR

theorem Fls.ne {w : World} {P : Nat → Prop} {v : Value} {L : List Fl} (h : Fls w P v L) {g : Nat} {cs : Array Value} {t : TypeId} (hg : w.heap[g]? = some (.cells cs t (0, 0))) (ht : t ≠ 29 := by decide) : ¬ v.ownBlock = some g := Row.ne h hg ht

theorem send_full {g : Nat} {v : Value} {lost : Int} {P : Nat → Prop} {L : List Fl} (w : World) (hb : BG w g v lost) (hL : Fls w P v L) (hl : 256 ≤ L.length) (hlo : 0 ≤ lost ∧ lost ≤ 100000) (x : Fl) :
    Calls Try.prog 8 #[.pointer (some ⟨g, 0, none⟩), x.v] w fun e w' => e = .returned (.int .i64 6) ∧ BG w' g v (lost + 1) ∧ Only (fun k => k = g) w w' := by
  obtain ⟨A, c, rfl, hnc⟩ := hL.form
  have HO : Hid (Only (fun _ => False) w (w.alloc (.cells #[.int .i64 x.f, .int .i64 x.t, .string x.s, .bool x.h] 29))) := Lib.hid ((Only.refl _ w).alloc _)
  have HB := Lib.hid (HO.out.blk hb (fun h => h))
  obtain ⟨n, hn⟩ : ∃ n, n = L.length := ⟨_, rfl⟩
  have hl' : (256 : Int) ≤ n := by omega
  have hw : wrap64 (lost + 1) = lost + 1 := by unfold wrap64; omega
  rw [← hn] at HB
  have HN := Lib.hid hn
  clear hb hL hlo hn hl
  have hc0 : (w.alloc (.cells #[.int .i64 x.f, .int .i64 x.t, .string x.s, .bool x.h] 29)).cell? ⟨g, 0, none⟩ = some (.slice A n c) := cell_at HB.out 0 rfl
  have hc1 : (w.alloc (.cells #[.int .i64 x.f, .int .i64 x.t, .string x.s, .bool x.h] 29)).cell? ⟨g, 1, none⟩ = some (.int .i64 lost) := cell_at HB.out 1 rfl
  have hf1 : (w.alloc (.cells #[.int .i64 x.f, .int .i64 x.t, .string x.s, .bool x.h] 29)).frozen? ⟨g, 1, none⟩ = false := blk_frozen HB.out 1
  unfold Fl.v
  go_enter Try.func8, Try.ntmps8
  go_wp2
  go_ret
  exact ⟨rfl, by rw [← HN.out]; exact blk_set HB.out 1 _, (HO.out.mono (S2 := fun k => k = g) (fun _ h => h.elim)).setCell (.inl rfl) _⟩

set_option maxHeartbeats 2000000 in
theorem send_ok {g : Nat} {v : Value} {lost : Int} {P : Nat → Prop} {L : List Fl} (w : World) (hb : BG w g v lost) (hL : Fls w P v L) (hl : L.length < 256) (hP : ∀ k, w.heap.size ≤ k → P k) (x : Fl) :
    Calls Try.prog 8 #[.pointer (some ⟨g, 0, none⟩), x.v] w fun e w' => e = .returned (.int .i64 0) ∧ ∃ v', BG w' g v' lost ∧ Fls w' P v' (L ++ [x]) ∧ Only (fun k => k = g ∨ v.ownBlock = some k) w w' := by
  obtain ⟨A, c, rfl, hnc⟩ := hL.form
  have HO : Hid (Only (fun _ => False) w (w.alloc (.cells #[.int .i64 x.f, .int .i64 x.t, .string x.s, .bool x.h] 29))) := Lib.hid ((Only.refl _ w).alloc _)
  have HB := Lib.hid (HO.out.blk hb (fun h => h))
  have HL : Hid (Fls (w.alloc (.cells #[.int .i64 x.f, .int .i64 x.t, .string x.s, .bool x.h] 29)) P (.slice A L.length c) L) := Lib.hid (hL.only HO.out (fun _ _ h => h))
  have HK := Lib.hid (heap_alloc_new w (.cells #[.int .i64 x.f, .int .i64 x.t, .string x.s, .bool x.h] 29))
  have HP := Lib.hid hP
  obtain ⟨n, hn⟩ : ∃ n, n = L.length := ⟨_, rfl⟩
  have hl' : ¬ (256 : Int) ≤ n := by omega
  have hl2 : L.length ≤ 2000 := by omega
  have HL2 := Lib.hid hl2
  rw [← hn] at HB HL ⊢
  have HN := Lib.hid hn
  have hc0 : (w.alloc (.cells #[.int .i64 x.f, .int .i64 x.t, .string x.s, .bool x.h] 29)).cell? ⟨g, 0, none⟩ = some (.slice A n c) := cell_at HB.out 0 rfl
  clear hb hL hn hl hl2 hP
  unfold Fl.v
  go_enter Try.func8, Try.ntmps8
  go_wp2
  generalize w.alloc (.cells #[.int .i64 x.f, .int .i64 x.t, .string x.s, .bool x.h] 29) = w5 at *
  have hx0 : w5.cell? ⟨g, 0, none⟩ = some (.slice A n c) := cell_at HB.out 0 rfl
  have hy0 : w5.cell? ⟨w.heap.size, 0, none⟩ = some (.int .i64 x.f) := cell_at HK.out 0 rfl
  have hy1 : w5.cell? ⟨w.heap.size, 1, none⟩ = some (.int .i64 x.t) := cell_at HK.out 1 rfl
  have hy2 : w5.cell? ⟨w.heap.size, 2, none⟩ = some (.string x.s) := cell_at HK.out 2 rfl
  have hy3 : w5.cell? ⟨w.heap.size, 3, none⟩ = some (.bool x.h) := cell_at HK.out 3 rfl
  obtain ⟨v2, w2, hr2, hI2, hO2⟩ := Fls.app (W := w5.drew) (P := P) (v := .slice A n c) (L := L) HL.out (fun q hq => HP.out q (by have h1 := HO.out.size; have h3 : w5.heap.size ≤ q := hq; omega)) HL2.out x 47
  have hr2' : (Builtin.append_ #[47, 47] 47 #[.slice A n c, .slice (some ⟨w5.heap.size, 0, none⟩) 1 1]).run Try.prog (w5.alloc (.cells #[.int .i64 x.f, .int .i64 x.t, .string x.s, .bool x.h] 29)).drew = .ok v2 w2 := hr2
  have hOA : Only (fun _ => False) w5 (w5.alloc (.cells #[.int .i64 x.f, .int .i64 x.t, .string x.s, .bool x.h] 29)).drew := ((Only.refl _ w5).alloc _).drew
  have hB2 : BG w2 g (.slice A n c) lost := hO2.blk (w := w5.drew) HB.out (Fls.ne HL.out HB.out)
  have hxa : (w5.alloc (.cells #[.int .i64 x.f, .int .i64 x.t, .string x.s, .bool x.h] 29)).drew.cell? ⟨g, 0, none⟩ = some (.slice A n c) := cell_at (hOA.blk HB.out (fun h => h)) 0 rfl
  have hya0 : (w5.alloc (.cells #[.int .i64 x.f, .int .i64 x.t, .string x.s, .bool x.h] 29)).drew.cell? ⟨w.heap.size, 0, none⟩ = some (.int .i64 x.f) := cell_at (hOA.blk HK.out (fun h => h)) 0 rfl
  have hya1 : (w5.alloc (.cells #[.int .i64 x.f, .int .i64 x.t, .string x.s, .bool x.h] 29)).drew.cell? ⟨w.heap.size, 1, none⟩ = some (.int .i64 x.t) := cell_at (hOA.blk HK.out (fun h => h)) 1 rfl
  have hya2 : (w5.alloc (.cells #[.int .i64 x.f, .int .i64 x.t, .string x.s, .bool x.h] 29)).drew.cell? ⟨w.heap.size, 2, none⟩ = some (.string x.s) := cell_at (hOA.blk HK.out (fun h => h)) 2 rfl
  have hya3 : (w5.alloc (.cells #[.int .i64 x.f, .int .i64 x.t, .string x.s, .bool x.h] 29)).drew.cell? ⟨w.heap.size, 3, none⟩ = some (.bool x.h) := cell_at (hOA.blk HK.out (fun h => h)) 3 rfl
  have hxb : w2.cell? ⟨g, 0, none⟩ = some (.slice A n c) := cell_at hB2 0 rfl
  have hfb : w2.frozen? ⟨g, 0, none⟩ = false := blk_frozen hB2 0
  have HI6 := Lib.hid hI2
  have HO6 := Lib.hid hO2
  have HB6 := Lib.hid hB2
  clear hr2 hI2 hO2 hOA hB2 hc0
  obtain ⟨A2, c2, e2, _⟩ := HI6.out.form
  subst e2
  have HB7 : Hid (BG (w2.setCell ⟨g, 0, none⟩ (.slice A2 (L ++ [x]).length c2)) g (.slice A2 (L ++ [x]).length c2) lost) := Lib.hid (blk_set HB6.out 0 _)
  have HI7 : Hid (Fls (w2.setCell ⟨g, 0, none⟩ (.slice A2 (L ++ [x]).length c2)) P (.slice A2 (L ++ [x]).length c2) (L ++ [x])) := Lib.hid (Row.only HI6.out ((Only.refl (fun q => q = g) w2).setCell (p := ⟨g, 0, none⟩) (.inl rfl) _) (fun k hk e => Fls.ne HI6.out HB6.out (by decide) (by rw [hk, e])))
  have HO7 : Hid (Only (fun q => q = g ∨ (Value.slice A n c).ownBlock = some q) w (w2.setCell ⟨g, 0, none⟩ (.slice A2 (L ++ [x]).length c2))) := Lib.hid (((HO.out.drew.mono (S2 := fun q => q = g ∨ (Value.slice A n c).ownBlock = some q) (fun _ h => h.elim)).trans (HO6.out.mono (fun _ h => .inr h))).setCell (.inl (.inl rfl)) _)
  generalize (L ++ [x]).length = d2 at *
  go_region_law ((rw [if_pos (by rfl)]; refine Go.Lib.wp_append_run_sl _ (.tmp 26) (.tmp 28) 47 rfl _ _ rfl rfl hr2' ?_))
  all_goals
    go_wp2
    go_ret
    exact ⟨rfl, _, HB7.out, HI7.out, HO7.out⟩

end Go.Proofs.Ythgkcjcmliaanaa.Bg

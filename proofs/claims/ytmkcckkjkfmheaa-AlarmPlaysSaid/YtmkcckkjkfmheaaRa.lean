/- Alarm: the document's alarms: a list by names; Time. -/
import Derived.Test.YtmkcckkjkfmheaaAlL
set_option linter.unusedVariables false
set_option linter.unusedSimpArgs false
set_option maxRecDepth 100000
namespace Go.Proofs.Ytmkcckkjkfmheaa.Al
open Go.RowKit Go.Maps Go.Proofs.Ytmkcckkjkfmheaa.Base Go.Proofs.Ytmkcckkjkfmheaa.Rws Go.Proofs.Ytmkcckkjkfmheaa.Wh Go.Proofs.YtmkcckkjkfmheaaW.PrintWords Go.Proofs.YtmkcckkjkfmheaaW.PrintMore
attribute [local go_sem] max2_mx min2_mn max_two min_two max_three min_three max_four min_four
attribute [local go_sem high] eqK27 eqK33

theorem info44 : (Try.prog.info? 44).map (fun i => (i.zero, i.size, i.bytes)) = some (some (.agg #[.int .i64 0, .int .i64 0, .int .i64 0, .int .i64 0, .int .i64 0, .int .i64 0]), 6, 48) := by kernel_rfl
theorem info27 : (Try.prog.info? 27).map (fun i => (i.zero, i.size, i.bytes)) = some (some (.agg #[.int .i64 0, .int .i64 0, .int .i64 0, .int .i64 0, .int .i64 0]), 5, 40) := by kernel_rfl

abbrev NT := K5 × Int
def encT (p : NT) : List Value := [.int .i64 p.1.a, .int .i64 p.1.b, .int .i64 p.1.c, .int .i64 p.1.d, .int .i64 p.1.e, .int .i64 p.2]
def boxT (p : NT) : Obj := .cells #[.int .i64 p.1.a, .int .i64 p.1.b, .int .i64 p.1.c, .int .i64 p.1.d, .int .i64 p.1.e, .int .i64 p.2] 44

/-- Alarms of the document's, in a row; names of its own. -/
def Rr (w : World) (P : Nat → Prop) (v : Value) (L : List NT) : Prop := Row 6 44 w P v L.length (L.flatMap encT)
def Nr (w : World) (P : Nat → Prop) (v : Value) (L : List K5) : Prop := Row 5 27 w P v L.length (L.flatMap encN)

theorem encT_at : ∀ (L : List NT) (i j : Nat) (p : NT), L[i]? = some p → j < 6 → (L.flatMap encT)[i * 6 + j]? = (encT p)[j]?
  | [], i, j, p, h, _ => by simp at h
  | q :: L, 0, j, p, h, hj => by
    simp at h
    subst h
    rw [List.flatMap_cons, Nat.zero_mul, Nat.zero_add, List.getElem?_append_left (by simpa [encT] using hj)]
  | q :: L, i + 1, j, p, h, hj => by
    rw [List.flatMap_cons, List.getElem?_append_right (by simp [encT]; omega)]
    rw [show (i + 1) * 6 + j - (encT q).length = i * 6 + j by simp [encT]; omega]
    exact encT_at L i j p (by simpa using h) hj

theorem Rr.app {W : World} {P : Nat → Prop} {v : Value} {L : List NT} (h : Rr W P v L) (hP : ∀ k, W.heap.size ≤ k → P k) (hl : L.length ≤ 20000) (x : NT) (ty : TypeId) :
    ∃ v1 w1, (Builtin.append_ #[41, 41] ty #[v, .slice (some ⟨W.heap.size, 0, none⟩) 1 1]).run Try.prog (W.alloc (boxT x)) = .ok v1 w1 ∧ Rr w1 P v1 (L ++ [x]) ∧ Only (fun k => v.ownBlock = some k) W w1 := by
  have hO : Only (fun k => v.ownBlock = some k) W (W.alloc (boxT x)) := (Only.refl _ W).alloc _
  have hnew := heap_alloc_new W (boxT x)
  have hrow : Row 6 44 (W.alloc (boxT x)) P v L.length (L.flatMap encT) := Row.keep h (fun g _ hg => heap_alloc_old W _ hg)
  have hsz : (W.alloc (boxT x)).heap.size = W.heap.size + 1 := by show (W.heap.push _).size = _; simp
  generalize W.alloc (boxT x) = W1 at *
  obtain ⟨v1, w1, hr, hR, ho⟩ := Row.app (ty := ty) hrow Try.underlying41 info44 (by rfl) (fun k hk => hP k (by omega)) ⟨W.heap.size, 0, none⟩ 1 1 (encT x) (by simp [encT]) (fun i u hu => by
    rw [Addr.add_lit, Nat.zero_add]
    refine cell_at hnew i ?_
    simpa [encT] using hu) (by simp [encT, Value.oneCell']) (by omega) (by omega) (by omega)
  refine ⟨v1, w1, hr, ?_, hO.trans ho⟩
  unfold Rr
  rw [List.length_append, List.length_singleton, List.flatMap_append]
  simpa using hR

theorem Nr.app {W : World} {P : Nat → Prop} {v : Value} {L : List K5} (h : Nr W P v L) (hP : ∀ k, W.heap.size ≤ k → P k) (hl : L.length ≤ 20000) (x : K5) (ty : TypeId) :
    ∃ v1 w1, (Builtin.append_ #[81, 81] ty #[v, .slice (some ⟨W.heap.size, 0, none⟩) 1 1]).run Try.prog (W.alloc (boxR x)) = .ok v1 w1 ∧ Nr w1 P v1 (L ++ [x]) ∧ Only (fun k => v.ownBlock = some k) W w1 := by
  have hO : Only (fun k => v.ownBlock = some k) W (W.alloc (boxR x)) := (Only.refl _ W).alloc _
  have hnew := heap_alloc_new W (boxR x)
  have hrow : Row 5 27 (W.alloc (boxR x)) P v L.length (L.flatMap encN) := Row.keep h (fun g _ hg => heap_alloc_old W _ hg)
  have hsz : (W.alloc (boxR x)).heap.size = W.heap.size + 1 := by show (W.heap.push _).size = _; simp
  generalize W.alloc (boxR x) = W1 at *
  obtain ⟨v1, w1, hr, hR, ho⟩ := Row.app (ty := ty) hrow Try.underlying81 info27 (by rfl) (fun k hk => hP k (by omega)) ⟨W.heap.size, 0, none⟩ 1 1 (encN x) (by simp [encN]) (fun i u hu => by
    rw [Addr.add_lit, Nat.zero_add]
    refine cell_at hnew i ?_
    simpa [encN] using hu) (by simp [encN, Value.oneCell']) (by omega) (by omega) (by omega)
  refine ⟨v1, w1, hr, ?_, hO.trans ho⟩
  unfold Nr
  rw [List.length_append, List.length_singleton, List.flatMap_append]
  simpa using hR

/-- The cells of one of them. -/
def At6 (w : World) (q o : Nat) (p : NT) : Prop := w.cell? ⟨q, o, none⟩ = some (.int .i64 p.1.a) ∧ w.cell? ⟨q, o + 1, none⟩ = some (.int .i64 p.1.b) ∧ w.cell? ⟨q, o + 2, none⟩ = some (.int .i64 p.1.c) ∧ w.cell? ⟨q, o + 3, none⟩ = some (.int .i64 p.1.d) ∧ w.cell? ⟨q, o + 4, none⟩ = some (.int .i64 p.1.e) ∧ w.cell? ⟨q, o + 5, none⟩ = some (.int .i64 p.2)

theorem Rr.at_ {w : World} {P : Nat → Prop} {q o c n : Nat} {L : List NT} (h : Rr w P (.slice (some ⟨q, o, none⟩) n c) L) (hn : n = L.length) {i : Nat} {p : NT} (hk : L[i]? = some p) : At6 w q (o + i * 6) p := by
  unfold Rr at h
  subst hn
  exact ⟨Row.cell h (i * 6) (encT_at L i 0 p hk (by decide)), Row.cell h (i * 6 + 1) (encT_at L i 1 p hk (by decide)), Row.cell h (i * 6 + 2) (encT_at L i 2 p hk (by decide)), Row.cell h (i * 6 + 3) (encT_at L i 3 p hk (by decide)), Row.cell h (i * 6 + 4) (encT_at L i 4 p hk (by decide)), Row.cell h (i * 6 + 5) (encT_at L i 5 p hk (by decide))⟩

theorem Nr.at_ {w : World} {P : Nat → Prop} {q o c n : Nat} {L : List K5} (h : Nr w P (.slice (some ⟨q, o, none⟩) n c) L) (hn : n = L.length) {i : Nat} {k : K5} (hk : L[i]? = some k) :
    w.cell? ⟨q, o + i * 5, none⟩ = some (.int .i64 k.a) ∧ w.cell? ⟨q, o + i * 5 + 1, none⟩ = some (.int .i64 k.b) ∧ w.cell? ⟨q, o + i * 5 + 2, none⟩ = some (.int .i64 k.c) ∧ w.cell? ⟨q, o + i * 5 + 3, none⟩ = some (.int .i64 k.d) ∧ w.cell? ⟨q, o + i * 5 + 4, none⟩ = some (.int .i64 k.e) := by
  unfold Nr at h
  subst hn
  exact ⟨Row.cell h (i * 5) (encN_at L i 0 k hk (by decide)), Row.cell h (i * 5 + 1) (encN_at L i 1 k hk (by decide)), Row.cell h (i * 5 + 2) (encN_at L i 2 k hk (by decide)), Row.cell h (i * 5 + 3) (encN_at L i 3 k hk (by decide)), Row.cell h (i * 5 + 4) (encN_at L i 4 k hk (by decide))⟩

/-- The document's alarms at r: a grain, a time, a list. -/
structure RA (w : World) (r : Nat) (g now : Int) (v : Value) (R : List NT) : Prop where
  blk : w.heap[r]? = some (.cells #[v, .int .i64 g, .int .i64 now] 58 (0, 0))
  row : Rr w (fun _ => True) v R

/-- Their own blocks. -/
def OwnR (r : Nat) (v : Value) (k : Nat) : Prop := k = r ∨ v.ownBlock = some k

section
variable {w w' : World} {r : Nat} {S : Nat → Prop} {g now : Int} {v : Value} {R : List NT}
theorem RA.only (h : RA w r g now v R) (k : Only S w w') (hn : ∀ i, OwnR r v i → ¬ S i) : RA w' r g now v R :=
  ⟨k.blk h.blk (hn r (.inl rfl)), Row.only h.row k (fun q hq => hn q (.inr hq))⟩
theorem RA.ne (h : RA w r g now v R) : ¬ v.ownBlock = some r := Row.ne h.row h.blk (by decide)
theorem RA.flt (h : RA w r g now v R) (k : Nat) (hk : OwnR r v k) : k < w.heap.size := by
  rcases hk with rfl | hk
  · exact blk_lt h.blk
  · exact (Row.own h.row hk).2
theorem RA.c0 (h : RA w r g now v R) : w.cell? ⟨r, 0, none⟩ = some v := cell_at h.blk 0 rfl
theorem RA.c1 (h : RA w r g now v R) : w.cell? ⟨r, 1, none⟩ = some (.int .i64 g) := cell_at h.blk 1 rfl
theorem RA.c2 (h : RA w r g now v R) : w.cell? ⟨r, 2, none⟩ = some (.int .i64 now) := cell_at h.blk 2 rfl
theorem RA.frozen (h : RA w r g now v R) (k : Nat) : w.frozen? ⟨r, k, none⟩ = false := blk_frozen h.blk k
theorem RA.form (h : RA w r g now v R) : ∃ A c, v = .slice A R.length c := by
  obtain ⟨A, c, hv, _⟩ := Row.form h.row
  exact ⟨A, c, hv⟩
end

/-- What Time tells. -/
def tOf (R : List NT) (k : K5) : Int × Bool := match R.find? (fun p => decide (p.1 = k)) with
  | some p => (p.2, true)
  | none => (0, false)

theorem tOf_none {R : List NT} {k : K5} (h : ∀ p ∈ R, p.1 ≠ k) : tOf R k = (0, false) := by
  unfold tOf
  rw [List.find?_eq_none.2 (fun p hp => by simpa using h p hp)]

theorem tOf_at {R : List NT} {k : K5} {i : Nat} {p : NT} (h : ∀ p ∈ R.take i, p.1 ≠ k) (hi : R[i]? = some p) (hp : p.1 = k) : tOf R k = (p.2, true) := by
  unfold tOf
  have hR : R = R.take i ++ p :: R.drop (i + 1) := by
    obtain ⟨hlt, he⟩ := List.getElem?_eq_some_iff.1 hi
    rw [← he, List.getElem_cons_drop, List.take_append_drop]
  rw [hR, List.find?_append, List.find?_eq_none.2 (fun p hp => by simpa using h p hp)]
  simp [hp]

set_option maxHeartbeats 8000000 in
theorem rtime_p {w : World} {r : Nat} {g now : Int} {v : Value} {R : List NT} (k : K5) (h : RA w r g now v R) (hR : R.length ≤ 10000) :
    Calls Try.prog 41 #[.pointer (some ⟨r, 0, none⟩), k.v] w fun e w' => e = .returned (.tuple #[.int .i64 (tOf R k).1, .bool (tOf R k).2]) ∧ Only (fun _ => False) w w' := by
  obtain ⟨w1, hw1⟩ : ∃ w1, w1 = w.alloc (boxR k) := ⟨_, rfl⟩
  obtain ⟨N, hN⟩ : ∃ N, N = w.heap.size := ⟨_, rfl⟩
  have hb1 : w1.heap[N]? = some (boxR k) := by rw [hw1, hN]; exact heap_alloc_new w _
  have ho1 : Only (fun _ => False) w w1 := by rw [hw1]; exact (Only.refl _ w).alloc _
  have h1 := h.only ho1 (fun _ _ h => h)
  have HB1 := Lib.hid hb1
  have HO1 := Lib.hid ho1
  have HR := Lib.hid h1
  obtain ⟨A, c, hv⟩ := h.form
  obtain ⟨M, hM⟩ : ∃ M, M = R.length := ⟨_, rfl⟩
  rw [← hM] at hv
  subst hv
  have HM := Lib.hid hM
  have hMb : M ≤ 10000 := by omega
  obtain ⟨⟨a, b', c', d, e⟩, hkk⟩ : ∃ z, z = k := ⟨_, rfl⟩
  have HKK := Lib.hid hkk
  have hwk : w1 = w.alloc (.cells #[.int .i64 a, .int .i64 b', .int .i64 c', .int .i64 d, .int .i64 e] 27) := by rw [hw1, ← hkk]; rfl
  have hkv : k.v = .agg #[.int .i64 a, .int .i64 b', .int .i64 c', .int .i64 d, .int .i64 e] := by rw [← hkk]; rfl
  rw [hkv]
  have HYC : Hid (∀ V, Only (fun _ => False) w1 V → V.cell? ⟨N, 0, none⟩ = some (.int .i64 a) ∧ V.cell? ⟨N, 1, none⟩ = some (.int .i64 b') ∧ V.cell? ⟨N, 2, none⟩ = some (.int .i64 c') ∧ V.cell? ⟨N, 3, none⟩ = some (.int .i64 d) ∧ V.cell? ⟨N, 4, none⟩ = some (.int .i64 e)) := Lib.hid (fun V hV => by
    have := hV.blk hb1 (fun h => h)
    rw [← hkk] at this
    exact boxR_cells this)
  clear h h1 hb1 ho1 hR hM hw1 hkk hkv
  go_enter Try.func41, Try.ntmps41
  go_upto_region 1 with fail
  rw [← hwk, ← hN]
  clear hwk hN
  go_upto_region 2 with fail
  go_loopw [6] (fun v6 wr => ∃ i : Nat, v6 = .int .i64 (i : Int) ∧ i ≤ M ∧ Hid (∀ p ∈ R.take i, p.1 ≠ k) ∧ Hid (Only (fun _ => False) w1 wr)) (fun v6 _ => M - (RowKit.intOf v6).toNat)
  case atStart => exact ⟨0, rfl, Nat.zero_le _, Lib.hid (by simp), Lib.hid (Only.refl _ _)⟩
  case round =>
    obtain ⟨i, rfl, hi, HI, HO⟩ := hrel
    have hra := HR.out.only HO.out (fun _ _ h => h)
    have x0 := hra.c0
    have hgo : i < M ∨ i = M := by omega
    rcases hgo with hlt | rfl
    · have hlt' : (i : Int) < (M : Int) := by omega
      have hio : i < R.length := by rw [← HM.out]; exact hlt
      have hge : R[i]? = some R[i] := List.getElem?_eq_getElem hio
      obtain ⟨p, hp⟩ : ∃ p, p = R[i] := ⟨_, rfl⟩
      rw [← hp] at hge
      obtain ⟨q, o, c2, hs, _⟩ := Row.some_ hra.row (by omega)
      injection hs with s1 s2 s3
      subst s1 s3
      obtain ⟨z0, z1, z2, z3, z4, z5⟩ := Rr.at_ hra.row HM.out hge
      obtain ⟨y0, y1, y2, y3, y4⟩ := HYC.out wr HO.out
      have HGE := Lib.hid hge
      obtain ⟨⟨pa, pb, pc, pd, pe⟩, pt⟩ := p
      simp only at z0 z1 z2 z3 z4 z5
      obtain ⟨bz, hbz⟩ : ∃ bz, bz = eqK ⟨pa, pb, pc, pd, pe⟩ ⟨a, b', c', d, e⟩ := ⟨_, rfl⟩
      have HBZ : Hid (bz = decide ((⟨pa, pb, pc, pd, pe⟩ : K5) = k)) := Lib.hid (by rw [hbz, eqK_dec, HKK.out])
      have hbz2 := hbz.symm
      clear hge hp hio hra s2 hbz
      go_upto_region 4 with fail
      cases bz with
      | true =>
        go_quiet (fail)
        go_wp2
        go_ret2
        refine ⟨?_, (HO1.out.trans HO.out).drewN _⟩
        rw [tOf_at HI.out HGE.out (of_decide_eq_true HBZ.out.symm)]
        rfl
      | false =>
        go_quiet (fail)
        go_wp2
        go_roundw
        case rel =>
          refine ⟨i + 1, by go_num, by omega, Lib.hid (fun p' hp' => ?_), Lib.hid (HO.out.drewN _)⟩
          rw [List.take_add_one, HGE.out] at hp'
          rcases List.mem_append.1 hp' with h1 | h1
          · exact HI.out p' h1
          · simp at h1
            rw [h1]
            exact of_decide_eq_false HBZ.out.symm
        case measure => simp [RowKit.intOf]; omega
    · have hge : ¬ (i : Int) < i := by omega
      have HT : Hid (tOf R k = (0, false)) := Lib.hid (tOf_none (by have := HI.out; rwa [HM.out, List.take_length] at this))
      clear hra
      go_wp2
      go_ret2
      refine ⟨?_, HO1.out.trans HO.out⟩
      rw [HT.out]
      rfl
end Go.Proofs.Ytmkcckkjkfmheaa.Al

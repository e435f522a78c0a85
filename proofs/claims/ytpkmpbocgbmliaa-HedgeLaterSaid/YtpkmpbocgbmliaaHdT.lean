/- Hedge: step. -/
import Derived.Test.YtpkmpbocgbmliaaHdN
set_option linter.unusedVariables false
set_option linter.unusedSimpArgs false
namespace Go.Proofs.Ytpkmpbocgbmliaa.Hd
open Go.RowKit Go.Proofs.Ytpkmpbocgbmliaa.Base Go.Proofs.Ytpkmpbocgbmliaa.Rws Go.Proofs.Ytpkmpbocgbmliaa.PHedgePlays Go.Proofs.YtpkmpbocgbmliaaW.PrintWords Go.Proofs.YtpkmpbocgbmliaaW.PrintMore
attribute [local go_sem] max2_mx min2_mn max_two min_two max_three min_three max_four min_four

/-- The state within a step: the game, and the result's box. -/
structure Sp (w0 w w' : World) (g : Nat) (K : Kst) (A : Option Addr) (ln c : Nat) (σ : St) (q o n cc p : Nat) : Prop where
  blk : w'.heap[g]? = some (.cells #[.int .i64 K.most, .int .i64 K.delay, .int .i64 K.dl, .slice A ln c, .int .i64 σ.sent, .int .i64 σ.next, .slice (some ⟨q, o, none⟩) n cc] 40 (0, 0))
  row : Row 3 51 w' (fun k => w0.heap.size ≤ k) (.slice (some ⟨q, o, none⟩) n cc) n (σ.out.flatMap encD)
  box : w'.heap[p]? = some (.cells #[.int .i64 0, .int .i64 0, .int .i64 0, .int .i64 0] 25 (0, 0))
  only : Only (fun _ => False) w w'

section
variable {w0 w w' w2 : World} {g : Nat} {K : Kst} {A : Option Addr} {ln c : Nat} {σ : St} {q o n cc p : Nat}
theorem Sp.only0 (h : Sp w0 w w' g K A ln c σ q o n cc p) (k : Only (fun _ => False) w' w2) : Sp w0 w w2 g K A ln c σ q o n cc p :=
  ⟨k.blk h.blk (fun h => h), h.row.only k (fun _ _ h => h), k.blk h.box (fun h => h), h.only.trans k⟩
theorem Sp.due (h : Sp w0 w w' g K A ln c σ q o n cc p) {k : Nat} {d : Due} (hd : σ.out[k]? = some d) : w'.cell? ⟨q, o + k * 3, none⟩ = some (.int .i64 d.t) ∧ w'.cell? ⟨q, o + k * 3 + 1, none⟩ = some (.int .i64 d.who) ∧ w'.cell? ⟨q, o + k * 3 + 2, none⟩ = some (.int .i64 d.code) :=
  ⟨h.row.cell (k * 3) (encD_at σ.out k 0 _ hd (by omega)), h.row.cell (k * 3 + 1) (encD_at σ.out k 1 _ hd (by omega)), h.row.cell (k * 3 + 2) (encD_at σ.out k 2 _ hd (by omega))⟩
theorem Sp.gm (h : Sp w0 w w' g K A ln c σ q o n cc p) (hln : ln = K.l.length) (hn : n = σ.out.length) (hg : w0.heap.size ≤ g) (ha : Kd.C k36 w0 A K.l.length K.l) (hb : Below w0.heap.size w0 w) : Gm w0 w' g K A c σ (.slice (some ⟨q, o, none⟩) n cc) :=
  ⟨by rw [← hln]; exact h.blk, by rw [← hn]; exact h.row, hg, ha, h.only.below hb hb.size (fun _ h => h.elim)⟩
end

theorem results_cell2 {P : Program} {fn : Func} {p u : Tmp} {ty : TypeId} (h : fn.results = #[.cell p ty, .tmp u]) (tmps : Array Value) (w : World) (g : Nat) (t : TypeId) (cs : Array Value) (fr : Nat × Nat) (d : TypeDesc)
    (hp : tmps.getD p undef = .pointer (some ⟨g, 0, none⟩)) (hg : w.heap[g]? = some (.cells cs t fr))
    (hu : P.underlying ty = some d) (hd : (match d with | .struct _ | .array _ _ => true | _ => false) = true) (hi : (P.info? ty).map (·.size) = some cs.size) :
    (results fn tmps).run P w = .ok (.tuple #[.agg cs, tmps.getD u undef]) w := by
  have hp' : tmps[p]?.getD undef = .pointer (some ⟨g, 0, none⟩) := by simpa using hp
  simp [results, h, hp', asAddr, run_loadVar_row w g t ty cs fr d hg hu hd hi]

/-- Answers are put behind answers. -/
theorem Ds.apps {W : World} {P Q : Nat → Prop} {v : Value} {L M : List Due} {A : Option Addr} {l m c : Nat} (hl1 : l = L.length) (h : Row 3 51 W P v l (L.flatMap encD)) (hm : m = M.length) (hM : Row 3 51 W Q (.slice A m c) m (M.flatMap encD)) (hP : ∀ k, W.heap.size ≤ k → P k) (hl : l + m ≤ 2000) (ty : TypeId) :
    ∃ v1 w1, (Builtin.append_ #[38, 38] ty #[v, .slice A m c]).run Try.prog W = .ok v1 w1 ∧ Ds w1 P v1 (L ++ M) ∧ Only (fun k => v.ownBlock = some k) W w1 := by
  by_cases h0 : m = 0
  · subst h0
    have : M = [] := List.length_eq_zero_iff.1 hm.symm
    subst this
    refine ⟨v, W, Row.app0 h Try.underlying38 info51 A c, by unfold Ds; simpa [hl1] using h, Only.refl _ _⟩
  · obtain ⟨g, o, c', hv, _⟩ := Row.some_ hM (by omega)
    injection hv with e1 e2 e3
    subst e1 e3
    obtain ⟨v1, w1, hr, hR, ho⟩ := Row.app (ty := ty) h Try.underlying38 info51 (by rfl) hP ⟨g, o, none⟩ m c (M.flatMap encD) (by rw [encD_len, hm]) (fun j u hu => by rw [Addr.add_lit]; exact Row.cell hM j hu) (encD_one M) (by omega) (by omega) (by omega)
    refine ⟨v1, w1, hr, ?_, ho⟩
    unfold Ds
    rw [List.length_append, List.flatMap_append, ← hm, ← hl1]
    exact hR

theorem encD_take (L : List Due) (k : Nat) (hk : k ≤ L.length) : (L.flatMap encD).take (k * 3) = (L.take k).flatMap encD := by
  conv => lhs; rw [← List.take_append_drop k L, List.flatMap_append]
  have h : ((L.take k).flatMap encD).length = k * 3 := by rw [encD_len, List.length_take]; congr 1; omega
  rw [← h, List.take_left]

theorem encD_drop (L : List Due) (k : Nat) (hk : k ≤ L.length) : (L.flatMap encD).drop (k * 3) = (L.drop k).flatMap encD := by
  conv => lhs; rw [← List.take_append_drop k L, List.flatMap_append]
  have h : ((L.take k).flatMap encD).length = k * 3 := by rw [encD_len, List.length_take]; congr 1; omega
  rw [← h, List.drop_left]

/-- One answer is taken out of its row. -/
theorem Ds.without {W : World} {P : Nat → Prop} {q o n cc : Nat} {L : List Due} (hn : n = L.length) (h : Row 3 51 W P (.slice (some ⟨q, o, none⟩) n cc) n (L.flatMap encD)) (hl : n ≤ 5) (hc : n ≤ cc) (hP : ∀ k, W.heap.size ≤ k → P k) (k : Nat) (hk : k < n) :
    ∃ A6 c6 w6, (Builtin.append_ #[38, 38] 38 #[.slice (some ⟨q, o, none⟩) k cc, if cc = k + 1 then .slice (some ⟨q, o, none⟩) (n - (k + 1)) 0 else .slice (some ⟨q, o + (k + 1) * 3, none⟩) (n - (k + 1)) (cc - (k + 1))]).run Try.prog W = .ok (.slice A6 (n - 1) c6) w6 ∧ Row 3 51 w6 P (.slice A6 (n - 1) c6) (n - 1) ((L.take k ++ L.drop (k + 1)).flatMap encD) ∧ Only (fun k => k = q) W w6 := by
  have hpre := h.pre k (by omega)
  rw [encD_take L k (by omega)] at hpre
  have hlen : (L.take k ++ L.drop (k + 1)).length = n - 1 := by rw [List.length_append, List.length_take, List.length_drop]; omega
  have hsuf : ∃ A c2, (if cc = k + 1 then Value.slice (some ⟨q, o, none⟩) (n - (k + 1)) 0 else .slice (some ⟨q, o + (k + 1) * 3, none⟩) (n - (k + 1)) (cc - (k + 1))) = .slice A (n - (k + 1)) c2 ∧ Row 3 51 W P (.slice A (n - (k + 1)) c2) (n - (k + 1)) ((L.drop (k + 1)).flatMap encD) := by
    by_cases hcc : cc = k + 1
    · rw [if_pos hcc]
      refine ⟨_, _, rfl, ?_⟩
      have h0 : L.drop (k + 1) = [] := List.drop_eq_nil_of_le (by omega)
      have hnk : n - (k + 1) = 0 := by omega
      rw [h0, hnk]
      rcases h with ⟨h, _⟩ | ⟨g', o', c', cells, hv, hg, hh, _, h2, _⟩
      · cases h
      · injection hv with e1 e2 e3
        injection e1 with e1
        injection e1 with e4 e5
        subst e4 e5
        exact .inr ⟨q, o, 0, cells, rfl, hg, hh, by omega, by omega, by simp, by simp⟩
    · rw [if_neg hcc]
      have h2 := h.cut (k + 1) (by omega)
      rw [encD_drop L (k + 1) (by omega)] at h2
      exact ⟨_, _, rfl, h2⟩
  obtain ⟨A, c2, he, hs⟩ := hsuf
  obtain ⟨v6, w6, hr, hR, ho⟩ := Ds.apps (by rw [List.length_take]; omega) hpre (by rw [List.length_drop]; omega) hs hP (by omega) 38
  obtain ⟨A6, c6, e6, _⟩ := hR.form
  rw [hlen] at e6
  subst e6
  unfold Ds at hR
  rw [hlen] at hR
  rw [he]
  exact ⟨A6, c6, w6, hr, hR, ho.mono (fun i hi => by simp [Value.ownBlock] at hi; exact hi.symm)⟩


set_option maxHeartbeats 4000000 in
set_option maxRecDepth 100000 in
theorem st_send {w0 w : World} {g : Nat} {K : Kst} {A : Option Addr} {c : Nat} {σ : St} {v : Value} (h : Gm w0 w g K A c σ v) (hO : OkS K σ) (h0 : 0 < σ.out.length) (k : Nat) (hk : k = firstN σ.out σ.out.length) (d : Due) (hd : σ.out[k]? = some d) (h1 : σ.sent < K.most) (h2 : σ.next < d.t) (h3 : σ.next < K.dl) :
    Calls Try.prog 17 #[.pointer (some ⟨g, 0, none⟩)] w fun e w' => e = .returned (.tuple #[.agg #[.int .i64 0, .int .i64 0, .int .i64 0, .int .i64 0], .bool false]) ∧ ∃ v', Gm w0 w' g K A c (sendM K σ σ.next) v' := by
  have hlen : σ.out.length ≤ 5 := by have h1 := hO.len; have h2 := hO.s1; have h3 := hO.most; omega
  obtain ⟨q, o, cc, rfl, hcc⟩ := h.row.some_ h0
  obtain ⟨n, hn⟩ : ∃ n, n = σ.out.length := ⟨_, rfl⟩
  obtain ⟨ln, hln⟩ : ∃ n, n = K.l.length := ⟨_, rfl⟩
  have hkn : k < n := by rw [hk, hn]; exact firstN_lt _ _ h0
  have HD := Lib.hid hd
  have HK := Lib.hid hk
  have HN := Lib.hid hn
  have HLN := Lib.hid hln
  have HG := Lib.hid h
  have HOK := Lib.hid hO
  have hO1 := (Only.refl (fun _ => False) w).alloc (.cells #[.int .i64 0, .int .i64 0, .int .i64 0, .int .i64 0] 25)
  have hF := first_p (h.only0 hO1) hlen h0
  rw [← hk] at hF
  have HF := Lib.hid hF
  have HS1 : Hid (Sp w0 w (w.alloc (.cells #[.int .i64 0, .int .i64 0, .int .i64 0, .int .i64 0] 25)) g K A ln c σ q o n cc w.heap.size) := Lib.hid ⟨by rw [hln, hn]; exact hO1.blk h.blk (fun h => h), by rw [hn]; exact h.row.only hO1 (fun _ _ h => h), heap_alloc_new w _, hO1⟩
  have hpg : g < w.heap.size := blk_lt h.blk
  have hpq : q < w.heap.size := (Row.own h.row (k := q) (by simp [Value.ownBlock])).2
  have hn0 : 0 < n := by omega
  have hn5 : n ≤ 5 := by omega
  have hcn : n ≤ cc := by omega
  clear hF hO1 h hO hlen hn hln hk hcc hd h0
  have hn0' : (0 : Int) < n := by omega
  have hk0' : (0 : Int) ≤ (k : Int) := by omega
  have hkn' : (k : Int) < n := by omega
  have hc6 : (w.alloc (.cells #[.int .i64 0, .int .i64 0, .int .i64 0, .int .i64 0] 25)).cell? ⟨g, 6, none⟩ = some (.slice (some ⟨q, o, none⟩) n cc) := cell_at HS1.out.blk 6 rfl
  go_enter Try.func17, Try.ntmps17
  go_wp2_with fail
  generalize w.alloc (.cells #[.int .i64 0, .int .i64 0, .int .i64 0, .int .i64 0] 25) = w1 at *
  obtain ⟨p, hp⟩ : ∃ p, p = w.heap.size := ⟨_, rfl⟩
  have HP := Lib.hid hp
  rw [← hp] at HS1 hpg hpq ⊢
  clear hp
  refine HF.out.mono ?_
  rintro e w2 ⟨rfl, ho2⟩
  have HS2 := Lib.hid (HS1.out.only0 ho2)
  clear ho2 hc6
  have hc0 : w2.cell? ⟨g, 0, none⟩ = some (.int .i64 K.most) := cell_at HS2.out.blk 0 rfl
  have hc2 : w2.cell? ⟨g, 2, none⟩ = some (.int .i64 K.dl) := cell_at HS2.out.blk 2 rfl
  have hc4 : w2.cell? ⟨g, 4, none⟩ = some (.int .i64 σ.sent) := cell_at HS2.out.blk 4 rfl
  have hc5 : w2.cell? ⟨g, 5, none⟩ = some (.int .i64 σ.next) := cell_at HS2.out.blk 5 rfl
  have hc6 : w2.cell? ⟨g, 6, none⟩ = some (.slice (some ⟨q, o, none⟩) n cc) := cell_at HS2.out.blk 6 rfl
  obtain ⟨he0, he1, he2⟩ := HS2.out.due HD.out
  go_wp2
  go_quiet (fail)
  obtain ⟨w3, hw⟩ : ∃ x, x = w2.drewN nq := ⟨_, rfl⟩
  have HS3 : Hid (Sp w0 w w3 g K A ln c σ q o n cc p) := by rw [hw]; exact Lib.hid (HS2.out.only0 ((Only.refl _ _).drewN _))
  rw [← hw]
  clear hw hc0 hc2 hc4 hc5 hc6 he0 he1 he2
  have hc0 : w3.cell? ⟨g, 0, none⟩ = some (.int .i64 K.most) := cell_at HS3.out.blk 0 rfl
  have hc2 : w3.cell? ⟨g, 2, none⟩ = some (.int .i64 K.dl) := cell_at HS3.out.blk 2 rfl
  have hc4 : w3.cell? ⟨g, 4, none⟩ = some (.int .i64 σ.sent) := cell_at HS3.out.blk 4 rfl
  have hc5 : w3.cell? ⟨g, 5, none⟩ = some (.int .i64 σ.next) := cell_at HS3.out.blk 5 rfl
  have hc6 : w3.cell? ⟨g, 6, none⟩ = some (.slice (some ⟨q, o, none⟩) n cc) := cell_at HS3.out.blk 6 rfl
  obtain ⟨he0, he1, he2⟩ := HS3.out.due HD.out
  go_wp2
  go_quiet (fail)
  obtain ⟨w4, hw⟩ : ∃ x, x = w3.drewN nq := ⟨_, rfl⟩
  have HS4 : Hid (Sp w0 w w4 g K A ln c σ q o n cc p) := by rw [hw]; exact Lib.hid (HS3.out.only0 ((Only.refl _ _).drewN _))
  rw [← hw]
  clear hw hc0 hc2 hc4 hc5 hc6 he0 he1 he2
  have hc0 : w4.cell? ⟨g, 0, none⟩ = some (.int .i64 K.most) := cell_at HS4.out.blk 0 rfl
  have hc2 : w4.cell? ⟨g, 2, none⟩ = some (.int .i64 K.dl) := cell_at HS4.out.blk 2 rfl
  have hc4 : w4.cell? ⟨g, 4, none⟩ = some (.int .i64 σ.sent) := cell_at HS4.out.blk 4 rfl
  have hc5 : w4.cell? ⟨g, 5, none⟩ = some (.int .i64 σ.next) := cell_at HS4.out.blk 5 rfl
  have hc6 : w4.cell? ⟨g, 6, none⟩ = some (.slice (some ⟨q, o, none⟩) n cc) := cell_at HS4.out.blk 6 rfl
  obtain ⟨he0, he1, he2⟩ := HS4.out.due HD.out
  have HSE := Lib.hid (send_p (HS4.out.gm HLN.out HN.out HG.out.ge HG.out.ans HG.out.bel) ⟨HOK.out.s0, by have := HOK.out.most; omega⟩ (by have := HN.out; omega) σ.next)
  go_wp2_with (first | (go_at_call 16; refine HSE.out.mono ?_; rintro e w5 ⟨rfl, v5, h5, o5⟩; have HG5 := Lib.hid h5; have HP5 := Lib.hid (o5.blk HS4.out.box (fun e => e.elim (fun e => by omega) (fun e => by simp [Value.ownBlock] at e; omega))); clear h5 o5) | ((with_reducible refine gate_store (ty := 25) (x := .tmp 2) (y := .tmp 60) rfl ?_); go_loud (refine wpList_store_row rfl 25 (.tmp 2) (.tmp 60) rfl p #[.int .i64 0, .int .i64 0, .int .i64 0, .int .i64 0] rfl rfl 25 _ HP5.out (by kernel_rfl) rfl (by simp [Value.oneCell']) ?_)))
  (try simp only [Exit.inBlock, Exit.then])
  refine bodyPost_ret (results_cell2 rfl _ _ p 25 _ (0, 0) _ rfl (setRow_heap _ _ _ _ _ _ HP5.out) Try.underlying25 rfl (by kernel_rfl)) rfl ?_
  have hset : Only (fun k => k = p) w5 (w5.setRow p #[.int .i64 0, .int .i64 0, .int .i64 0, .int .i64 0]) := only_setRow (S := fun k => k = p) (Only.refl _ _) (.inl rfl) _
  have hpp := HP.out
  refine ⟨rfl, v5, hset.blk HG5.out.blk (by omega), HG5.out.row.only hset (fun i hi e => HG5.out.row.ne HP5.out (by decide) (by rw [hi, e])), HG5.out.ge, HG5.out.ans, hset.below HG5.out.bel HG5.out.bel.size (fun i hi => by have := HG.out.bel.size; omega)⟩

set_option maxHeartbeats 4000000 in
set_option maxRecDepth 100000 in
theorem st_late1 {w0 w : World} {g : Nat} {K : Kst} {A : Option Addr} {c : Nat} {σ : St} {v : Value} (h : Gm w0 w g K A c σ v) (hO : OkS K σ) (h0 : 0 < σ.out.length) (k : Nat) (hk : k = firstN σ.out σ.out.length) (d : Due) (hd : σ.out[k]? = some d) (h1 : σ.sent < K.most) (h2 : σ.next < d.t) (h3 : ¬ σ.next < K.dl) :
    Calls Try.prog 17 #[.pointer (some ⟨g, 0, none⟩)] w fun e w' => e = .returned (.tuple #[.agg #[.int .i64 4, .int .i64 K.dl, .int .i64 σ.sent, .int .i64 0], .bool true]) ∧ Below w0.heap.size w0 w' := by
  have hlen : σ.out.length ≤ 5 := by have h1 := hO.len; have h2 := hO.s1; have h3 := hO.most; omega
  obtain ⟨q, o, cc, rfl, hcc⟩ := h.row.some_ h0
  obtain ⟨n, hn⟩ : ∃ n, n = σ.out.length := ⟨_, rfl⟩
  obtain ⟨ln, hln⟩ : ∃ n, n = K.l.length := ⟨_, rfl⟩
  have hkn : k < n := by rw [hk, hn]; exact firstN_lt _ _ h0
  have HD := Lib.hid hd
  have HK := Lib.hid hk
  have HN := Lib.hid hn
  have HLN := Lib.hid hln
  have HG := Lib.hid h
  have HOK := Lib.hid hO
  have hO1 := (Only.refl (fun _ => False) w).alloc (.cells #[.int .i64 0, .int .i64 0, .int .i64 0, .int .i64 0] 25)
  have hF := first_p (h.only0 hO1) hlen h0
  rw [← hk] at hF
  have HF := Lib.hid hF
  have HS1 : Hid (Sp w0 w (w.alloc (.cells #[.int .i64 0, .int .i64 0, .int .i64 0, .int .i64 0] 25)) g K A ln c σ q o n cc w.heap.size) := Lib.hid ⟨by rw [hln, hn]; exact hO1.blk h.blk (fun h => h), by rw [hn]; exact h.row.only hO1 (fun _ _ h => h), heap_alloc_new w _, hO1⟩
  have hpg : g < w.heap.size := blk_lt h.blk
  have hpq : q < w.heap.size := (Row.own h.row (k := q) (by simp [Value.ownBlock])).2
  have hn0 : 0 < n := by omega
  have hn5 : n ≤ 5 := by omega
  have hcn : n ≤ cc := by omega
  clear hF hO1 h hO hlen hn hln hk hcc hd h0
  have hn0' : (0 : Int) < n := by omega
  have hk0' : (0 : Int) ≤ (k : Int) := by omega
  have hkn' : (k : Int) < n := by omega
  have hc6 : (w.alloc (.cells #[.int .i64 0, .int .i64 0, .int .i64 0, .int .i64 0] 25)).cell? ⟨g, 6, none⟩ = some (.slice (some ⟨q, o, none⟩) n cc) := cell_at HS1.out.blk 6 rfl
  go_enter Try.func17, Try.ntmps17
  go_wp2_with fail
  generalize w.alloc (.cells #[.int .i64 0, .int .i64 0, .int .i64 0, .int .i64 0] 25) = w1 at *
  obtain ⟨p, hp⟩ : ∃ p, p = w.heap.size := ⟨_, rfl⟩
  have HP := Lib.hid hp
  rw [← hp] at HS1 hpg hpq ⊢
  clear hp
  refine HF.out.mono ?_
  rintro e w2 ⟨rfl, ho2⟩
  have HS2 := Lib.hid (HS1.out.only0 ho2)
  clear ho2 hc6
  have hcd3 : decide (σ.next < K.dl) = false := decide_eq_false (by omega)
  have hc0 : w2.cell? ⟨g, 0, none⟩ = some (.int .i64 K.most) := cell_at HS2.out.blk 0 rfl
  have hc2 : w2.cell? ⟨g, 2, none⟩ = some (.int .i64 K.dl) := cell_at HS2.out.blk 2 rfl
  have hc4 : w2.cell? ⟨g, 4, none⟩ = some (.int .i64 σ.sent) := cell_at HS2.out.blk 4 rfl
  have hc5 : w2.cell? ⟨g, 5, none⟩ = some (.int .i64 σ.next) := cell_at HS2.out.blk 5 rfl
  have hc6 : w2.cell? ⟨g, 6, none⟩ = some (.slice (some ⟨q, o, none⟩) n cc) := cell_at HS2.out.blk 6 rfl
  obtain ⟨he0, he1, he2⟩ := HS2.out.due HD.out
  go_wp2
  go_quiet (fail)
  obtain ⟨w3, hw⟩ : ∃ x, x = w2.drewN nq := ⟨_, rfl⟩
  have HS3 : Hid (Sp w0 w w3 g K A ln c σ q o n cc p) := by rw [hw]; exact Lib.hid (HS2.out.only0 ((Only.refl _ _).drewN _))
  rw [← hw]
  clear hw hc0 hc2 hc4 hc5 hc6 he0 he1 he2
  have hc0 : w3.cell? ⟨g, 0, none⟩ = some (.int .i64 K.most) := cell_at HS3.out.blk 0 rfl
  have hc2 : w3.cell? ⟨g, 2, none⟩ = some (.int .i64 K.dl) := cell_at HS3.out.blk 2 rfl
  have hc4 : w3.cell? ⟨g, 4, none⟩ = some (.int .i64 σ.sent) := cell_at HS3.out.blk 4 rfl
  have hc5 : w3.cell? ⟨g, 5, none⟩ = some (.int .i64 σ.next) := cell_at HS3.out.blk 5 rfl
  have hc6 : w3.cell? ⟨g, 6, none⟩ = some (.slice (some ⟨q, o, none⟩) n cc) := cell_at HS3.out.blk 6 rfl
  obtain ⟨he0, he1, he2⟩ := HS3.out.due HD.out
  go_wp2
  go_quiet (fail)
  obtain ⟨w4, hw⟩ : ∃ x, x = w3.drewN nq := ⟨_, rfl⟩
  have HS4 : Hid (Sp w0 w w4 g K A ln c σ q o n cc p) := by rw [hw]; exact Lib.hid (HS3.out.only0 ((Only.refl _ _).drewN _))
  rw [← hw]
  clear hw hc0 hc2 hc4 hc5 hc6 he0 he1 he2
  have hc0 : w4.cell? ⟨g, 0, none⟩ = some (.int .i64 K.most) := cell_at HS4.out.blk 0 rfl
  have hc2 : w4.cell? ⟨g, 2, none⟩ = some (.int .i64 K.dl) := cell_at HS4.out.blk 2 rfl
  have hc4 : w4.cell? ⟨g, 4, none⟩ = some (.int .i64 σ.sent) := cell_at HS4.out.blk 4 rfl
  have hc5 : w4.cell? ⟨g, 5, none⟩ = some (.int .i64 σ.next) := cell_at HS4.out.blk 5 rfl
  have hc6 : w4.cell? ⟨g, 6, none⟩ = some (.slice (some ⟨q, o, none⟩) n cc) := cell_at HS4.out.blk 6 rfl
  obtain ⟨he0, he1, he2⟩ := HS4.out.due HD.out
  have HLA := Lib.hid (late_p (HS4.out.gm HLN.out HN.out HG.out.ge HG.out.ans HG.out.bel))
  go_wp2_with (first | (go_at_call 15; refine HLA.out.mono ?_; rintro e w5 ⟨rfl, o5⟩; have HS5 := Lib.hid (HS4.out.only0 o5); clear o5) | ((with_reducible refine gate_store (ty := 25) (x := .tmp 2) (y := .tmp 72) rfl ?_); go_loud (refine wpList_store_row rfl 25 (.tmp 2) (.tmp 72) rfl p #[.int .i64 4, .int .i64 K.dl, .int .i64 σ.sent, .int .i64 0] rfl rfl 25 _ HS5.out.box (by kernel_rfl) rfl (by simp [Value.oneCell']) ?_)))
  (try simp only [Exit.inBlock, Exit.then])
  refine bodyPost_ret (results_cell2 rfl _ _ p 25 _ (0, 0) _ rfl (setRow_heap _ _ _ _ _ _ HS5.out.box) Try.underlying25 rfl (by kernel_rfl)) rfl ?_
  refine ⟨rfl, (only_setRow (S := fun k => k = p) (HS5.out.only.mono (fun _ h => h.elim)) (.inl rfl) _).below HG.out.bel HG.out.bel.size (fun i hi => by have := HG.out.bel.size; have := HP.out; omega)⟩

set_option maxHeartbeats 4000000 in
set_option maxRecDepth 100000 in
theorem st_late2 {w0 w : World} {g : Nat} {K : Kst} {A : Option Addr} {c : Nat} {σ : St} {v : Value} (h : Gm w0 w g K A c σ v) (hO : OkS K σ) (h0 : 0 < σ.out.length) (k : Nat) (hk : k = firstN σ.out σ.out.length) (d : Due) (hd : σ.out[k]? = some d) (h1 : ¬ σ.sent < K.most) (h3 : K.dl ≤ d.t) :
    Calls Try.prog 17 #[.pointer (some ⟨g, 0, none⟩)] w fun e w' => e = .returned (.tuple #[.agg #[.int .i64 4, .int .i64 K.dl, .int .i64 σ.sent, .int .i64 0], .bool true]) ∧ Below w0.heap.size w0 w' := by
  have hlen : σ.out.length ≤ 5 := by have h1 := hO.len; have h2 := hO.s1; have h3 := hO.most; omega
  obtain ⟨q, o, cc, rfl, hcc⟩ := h.row.some_ h0
  obtain ⟨n, hn⟩ : ∃ n, n = σ.out.length := ⟨_, rfl⟩
  obtain ⟨ln, hln⟩ : ∃ n, n = K.l.length := ⟨_, rfl⟩
  have hkn : k < n := by rw [hk, hn]; exact firstN_lt _ _ h0
  have HD := Lib.hid hd
  have HK := Lib.hid hk
  have HN := Lib.hid hn
  have HLN := Lib.hid hln
  have HG := Lib.hid h
  have HOK := Lib.hid hO
  have hO1 := (Only.refl (fun _ => False) w).alloc (.cells #[.int .i64 0, .int .i64 0, .int .i64 0, .int .i64 0] 25)
  have hF := first_p (h.only0 hO1) hlen h0
  rw [← hk] at hF
  have HF := Lib.hid hF
  have HS1 : Hid (Sp w0 w (w.alloc (.cells #[.int .i64 0, .int .i64 0, .int .i64 0, .int .i64 0] 25)) g K A ln c σ q o n cc w.heap.size) := Lib.hid ⟨by rw [hln, hn]; exact hO1.blk h.blk (fun h => h), by rw [hn]; exact h.row.only hO1 (fun _ _ h => h), heap_alloc_new w _, hO1⟩
  have hpg : g < w.heap.size := blk_lt h.blk
  have hpq : q < w.heap.size := (Row.own h.row (k := q) (by simp [Value.ownBlock])).2
  have hn0 : 0 < n := by omega
  have hn5 : n ≤ 5 := by omega
  have hcn : n ≤ cc := by omega
  clear hF hO1 h hO hlen hn hln hk hcc hd h0
  have hn0' : (0 : Int) < n := by omega
  have hk0' : (0 : Int) ≤ (k : Int) := by omega
  have hkn' : (k : Int) < n := by omega
  have hc6 : (w.alloc (.cells #[.int .i64 0, .int .i64 0, .int .i64 0, .int .i64 0] 25)).cell? ⟨g, 6, none⟩ = some (.slice (some ⟨q, o, none⟩) n cc) := cell_at HS1.out.blk 6 rfl
  go_enter Try.func17, Try.ntmps17
  go_wp2_with fail
  generalize w.alloc (.cells #[.int .i64 0, .int .i64 0, .int .i64 0, .int .i64 0] 25) = w1 at *
  obtain ⟨p, hp⟩ : ∃ p, p = w.heap.size := ⟨_, rfl⟩
  have HP := Lib.hid hp
  rw [← hp] at HS1 hpg hpq ⊢
  clear hp
  refine HF.out.mono ?_
  rintro e w2 ⟨rfl, ho2⟩
  have HS2 := Lib.hid (HS1.out.only0 ho2)
  clear ho2 hc6
  have hcd1 : decide (σ.sent < K.most) = false := decide_eq_false (by omega)
  have hc0 : w2.cell? ⟨g, 0, none⟩ = some (.int .i64 K.most) := cell_at HS2.out.blk 0 rfl
  have hc2 : w2.cell? ⟨g, 2, none⟩ = some (.int .i64 K.dl) := cell_at HS2.out.blk 2 rfl
  have hc4 : w2.cell? ⟨g, 4, none⟩ = some (.int .i64 σ.sent) := cell_at HS2.out.blk 4 rfl
  have hc5 : w2.cell? ⟨g, 5, none⟩ = some (.int .i64 σ.next) := cell_at HS2.out.blk 5 rfl
  have hc6 : w2.cell? ⟨g, 6, none⟩ = some (.slice (some ⟨q, o, none⟩) n cc) := cell_at HS2.out.blk 6 rfl
  obtain ⟨he0, he1, he2⟩ := HS2.out.due HD.out
  go_wp2
  go_quiet (fail)
  obtain ⟨w3, hw⟩ : ∃ x, x = w2.drewN nq := ⟨_, rfl⟩
  have HS3 : Hid (Sp w0 w w3 g K A ln c σ q o n cc p) := by rw [hw]; exact Lib.hid (HS2.out.only0 ((Only.refl _ _).drewN _))
  rw [← hw]
  clear hw hc0 hc2 hc4 hc5 hc6 he0 he1 he2
  have hc0 : w3.cell? ⟨g, 0, none⟩ = some (.int .i64 K.most) := cell_at HS3.out.blk 0 rfl
  have hc2 : w3.cell? ⟨g, 2, none⟩ = some (.int .i64 K.dl) := cell_at HS3.out.blk 2 rfl
  have hc4 : w3.cell? ⟨g, 4, none⟩ = some (.int .i64 σ.sent) := cell_at HS3.out.blk 4 rfl
  have hc5 : w3.cell? ⟨g, 5, none⟩ = some (.int .i64 σ.next) := cell_at HS3.out.blk 5 rfl
  have hc6 : w3.cell? ⟨g, 6, none⟩ = some (.slice (some ⟨q, o, none⟩) n cc) := cell_at HS3.out.blk 6 rfl
  obtain ⟨he0, he1, he2⟩ := HS3.out.due HD.out
  go_wp2
  go_quiet (fail)
  obtain ⟨w4, hw⟩ : ∃ x, x = w3.drewN nq := ⟨_, rfl⟩
  have HS4 : Hid (Sp w0 w w4 g K A ln c σ q o n cc p) := by rw [hw]; exact Lib.hid (HS3.out.only0 ((Only.refl _ _).drewN _))
  rw [← hw]
  clear hw hc0 hc2 hc4 hc5 hc6 he0 he1 he2
  have hc0 : w4.cell? ⟨g, 0, none⟩ = some (.int .i64 K.most) := cell_at HS4.out.blk 0 rfl
  have hc2 : w4.cell? ⟨g, 2, none⟩ = some (.int .i64 K.dl) := cell_at HS4.out.blk 2 rfl
  have hc4 : w4.cell? ⟨g, 4, none⟩ = some (.int .i64 σ.sent) := cell_at HS4.out.blk 4 rfl
  have hc5 : w4.cell? ⟨g, 5, none⟩ = some (.int .i64 σ.next) := cell_at HS4.out.blk 5 rfl
  have hc6 : w4.cell? ⟨g, 6, none⟩ = some (.slice (some ⟨q, o, none⟩) n cc) := cell_at HS4.out.blk 6 rfl
  obtain ⟨he0, he1, he2⟩ := HS4.out.due HD.out
  have HLA := Lib.hid (late_p (HS4.out.gm HLN.out HN.out HG.out.ge HG.out.ans HG.out.bel))
  go_wp2_with (first | (go_at_call 15; refine HLA.out.mono ?_; rintro e w5 ⟨rfl, o5⟩; have HS5 := Lib.hid (HS4.out.only0 o5); clear o5) | ((with_reducible refine gate_store (ty := 25) (x := .tmp 2) (y := .tmp 72) rfl ?_); go_loud (refine wpList_store_row rfl 25 (.tmp 2) (.tmp 72) rfl p #[.int .i64 4, .int .i64 K.dl, .int .i64 σ.sent, .int .i64 0] rfl rfl 25 _ HS5.out.box (by kernel_rfl) rfl (by simp [Value.oneCell']) ?_)))
  (try simp only [Exit.inBlock, Exit.then])
  refine bodyPost_ret (results_cell2 rfl _ _ p 25 _ (0, 0) _ rfl (setRow_heap _ _ _ _ _ _ HS5.out.box) Try.underlying25 rfl (by kernel_rfl)) rfl ?_
  refine ⟨rfl, (only_setRow (S := fun k => k = p) (HS5.out.only.mono (fun _ h => h.elim)) (.inl rfl) _).below HG.out.bel HG.out.bel.size (fun i hi => by have := HG.out.bel.size; have := HP.out; omega)⟩

set_option maxHeartbeats 4000000 in
set_option maxRecDepth 100000 in
theorem st_late3 {w0 w : World} {g : Nat} {K : Kst} {A : Option Addr} {c : Nat} {σ : St} {v : Value} (h : Gm w0 w g K A c σ v) (hO : OkS K σ) (h0 : 0 < σ.out.length) (k : Nat) (hk : k = firstN σ.out σ.out.length) (d : Due) (hd : σ.out[k]? = some d) (h1 : σ.sent < K.most) (h2 : ¬ σ.next < d.t) (h3 : K.dl ≤ d.t) :
    Calls Try.prog 17 #[.pointer (some ⟨g, 0, none⟩)] w fun e w' => e = .returned (.tuple #[.agg #[.int .i64 4, .int .i64 K.dl, .int .i64 σ.sent, .int .i64 0], .bool true]) ∧ Below w0.heap.size w0 w' := by
  have hlen : σ.out.length ≤ 5 := by have h1 := hO.len; have h2 := hO.s1; have h3 := hO.most; omega
  obtain ⟨q, o, cc, rfl, hcc⟩ := h.row.some_ h0
  obtain ⟨n, hn⟩ : ∃ n, n = σ.out.length := ⟨_, rfl⟩
  obtain ⟨ln, hln⟩ : ∃ n, n = K.l.length := ⟨_, rfl⟩
  have hkn : k < n := by rw [hk, hn]; exact firstN_lt _ _ h0
  have HD := Lib.hid hd
  have HK := Lib.hid hk
  have HN := Lib.hid hn
  have HLN := Lib.hid hln
  have HG := Lib.hid h
  have HOK := Lib.hid hO
  have hO1 := (Only.refl (fun _ => False) w).alloc (.cells #[.int .i64 0, .int .i64 0, .int .i64 0, .int .i64 0] 25)
  have hF := first_p (h.only0 hO1) hlen h0
  rw [← hk] at hF
  have HF := Lib.hid hF
  have HS1 : Hid (Sp w0 w (w.alloc (.cells #[.int .i64 0, .int .i64 0, .int .i64 0, .int .i64 0] 25)) g K A ln c σ q o n cc w.heap.size) := Lib.hid ⟨by rw [hln, hn]; exact hO1.blk h.blk (fun h => h), by rw [hn]; exact h.row.only hO1 (fun _ _ h => h), heap_alloc_new w _, hO1⟩
  have hpg : g < w.heap.size := blk_lt h.blk
  have hpq : q < w.heap.size := (Row.own h.row (k := q) (by simp [Value.ownBlock])).2
  have hn0 : 0 < n := by omega
  have hn5 : n ≤ 5 := by omega
  have hcn : n ≤ cc := by omega
  clear hF hO1 h hO hlen hn hln hk hcc hd h0
  have hn0' : (0 : Int) < n := by omega
  have hk0' : (0 : Int) ≤ (k : Int) := by omega
  have hkn' : (k : Int) < n := by omega
  have hc6 : (w.alloc (.cells #[.int .i64 0, .int .i64 0, .int .i64 0, .int .i64 0] 25)).cell? ⟨g, 6, none⟩ = some (.slice (some ⟨q, o, none⟩) n cc) := cell_at HS1.out.blk 6 rfl
  go_enter Try.func17, Try.ntmps17
  go_wp2_with fail
  generalize w.alloc (.cells #[.int .i64 0, .int .i64 0, .int .i64 0, .int .i64 0] 25) = w1 at *
  obtain ⟨p, hp⟩ : ∃ p, p = w.heap.size := ⟨_, rfl⟩
  have HP := Lib.hid hp
  rw [← hp] at HS1 hpg hpq ⊢
  clear hp
  refine HF.out.mono ?_
  rintro e w2 ⟨rfl, ho2⟩
  have HS2 := Lib.hid (HS1.out.only0 ho2)
  clear ho2 hc6
  have hcd2 : decide (σ.next < d.t) = false := decide_eq_false (by omega)
  have hc0 : w2.cell? ⟨g, 0, none⟩ = some (.int .i64 K.most) := cell_at HS2.out.blk 0 rfl
  have hc2 : w2.cell? ⟨g, 2, none⟩ = some (.int .i64 K.dl) := cell_at HS2.out.blk 2 rfl
  have hc4 : w2.cell? ⟨g, 4, none⟩ = some (.int .i64 σ.sent) := cell_at HS2.out.blk 4 rfl
  have hc5 : w2.cell? ⟨g, 5, none⟩ = some (.int .i64 σ.next) := cell_at HS2.out.blk 5 rfl
  have hc6 : w2.cell? ⟨g, 6, none⟩ = some (.slice (some ⟨q, o, none⟩) n cc) := cell_at HS2.out.blk 6 rfl
  obtain ⟨he0, he1, he2⟩ := HS2.out.due HD.out
  go_wp2
  go_quiet (fail)
  obtain ⟨w3, hw⟩ : ∃ x, x = w2.drewN nq := ⟨_, rfl⟩
  have HS3 : Hid (Sp w0 w w3 g K A ln c σ q o n cc p) := by rw [hw]; exact Lib.hid (HS2.out.only0 ((Only.refl _ _).drewN _))
  rw [← hw]
  clear hw hc0 hc2 hc4 hc5 hc6 he0 he1 he2
  have hc0 : w3.cell? ⟨g, 0, none⟩ = some (.int .i64 K.most) := cell_at HS3.out.blk 0 rfl
  have hc2 : w3.cell? ⟨g, 2, none⟩ = some (.int .i64 K.dl) := cell_at HS3.out.blk 2 rfl
  have hc4 : w3.cell? ⟨g, 4, none⟩ = some (.int .i64 σ.sent) := cell_at HS3.out.blk 4 rfl
  have hc5 : w3.cell? ⟨g, 5, none⟩ = some (.int .i64 σ.next) := cell_at HS3.out.blk 5 rfl
  have hc6 : w3.cell? ⟨g, 6, none⟩ = some (.slice (some ⟨q, o, none⟩) n cc) := cell_at HS3.out.blk 6 rfl
  obtain ⟨he0, he1, he2⟩ := HS3.out.due HD.out
  go_wp2
  go_quiet (fail)
  obtain ⟨w4, hw⟩ : ∃ x, x = w3.drewN nq := ⟨_, rfl⟩
  have HS4 : Hid (Sp w0 w w4 g K A ln c σ q o n cc p) := by rw [hw]; exact Lib.hid (HS3.out.only0 ((Only.refl _ _).drewN _))
  rw [← hw]
  clear hw hc0 hc2 hc4 hc5 hc6 he0 he1 he2
  have hc0 : w4.cell? ⟨g, 0, none⟩ = some (.int .i64 K.most) := cell_at HS4.out.blk 0 rfl
  have hc2 : w4.cell? ⟨g, 2, none⟩ = some (.int .i64 K.dl) := cell_at HS4.out.blk 2 rfl
  have hc4 : w4.cell? ⟨g, 4, none⟩ = some (.int .i64 σ.sent) := cell_at HS4.out.blk 4 rfl
  have hc5 : w4.cell? ⟨g, 5, none⟩ = some (.int .i64 σ.next) := cell_at HS4.out.blk 5 rfl
  have hc6 : w4.cell? ⟨g, 6, none⟩ = some (.slice (some ⟨q, o, none⟩) n cc) := cell_at HS4.out.blk 6 rfl
  obtain ⟨he0, he1, he2⟩ := HS4.out.due HD.out
  have HLA := Lib.hid (late_p (HS4.out.gm HLN.out HN.out HG.out.ge HG.out.ans HG.out.bel))
  go_wp2_with (first | (go_at_call 15; refine HLA.out.mono ?_; rintro e w5 ⟨rfl, o5⟩; have HS5 := Lib.hid (HS4.out.only0 o5); clear o5) | ((with_reducible refine gate_store (ty := 25) (x := .tmp 2) (y := .tmp 72) rfl ?_); go_loud (refine wpList_store_row rfl 25 (.tmp 2) (.tmp 72) rfl p #[.int .i64 4, .int .i64 K.dl, .int .i64 σ.sent, .int .i64 0] rfl rfl 25 _ HS5.out.box (by kernel_rfl) rfl (by simp [Value.oneCell']) ?_)))
  (try simp only [Exit.inBlock, Exit.then])
  refine bodyPost_ret (results_cell2 rfl _ _ p 25 _ (0, 0) _ rfl (setRow_heap _ _ _ _ _ _ HS5.out.box) Try.underlying25 rfl (by kernel_rfl)) rfl ?_
  refine ⟨rfl, (only_setRow (S := fun k => k = p) (HS5.out.only.mono (fun _ h => h.elim)) (.inl rfl) _).below HG.out.bel HG.out.bel.size (fun i hi => by have := HG.out.bel.size; have := HP.out; omega)⟩

end Go.Proofs.Ytpkmpbocgbmliaa.Hd

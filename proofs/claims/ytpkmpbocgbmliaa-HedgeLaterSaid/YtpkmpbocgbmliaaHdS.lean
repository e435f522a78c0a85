/- Hedge: late, send, first. -/
import Derived.Test.YtpkmpbocgbmliaaHd
set_option linter.unusedVariables false
set_option linter.unusedSimpArgs false
namespace Go.Proofs.Ytpkmpbocgbmliaa.Hd
open Go.RowKit Go.Proofs.Ytpkmpbocgbmliaa.Base Go.Proofs.Ytpkmpbocgbmliaa.Rws Go.Proofs.Ytpkmpbocgbmliaa.PHedgePlays Go.Proofs.YtpkmpbocgbmliaaW.PrintWords Go.Proofs.YtpkmpbocgbmliaaW.PrintMore
attribute [local go_sem] max2_mx min2_mn max_two min_two max_three min_three max_four min_four

section
variable {P : Program} {W : World} {ops : Array Oper} {rest : List Oper} {o : Oper} {a : Act} {Q : Exit → Act → World → Prop}
theorem gate_store {ty : TypeId} {x y : Operand} (_ho : o.op = .store ty x y) (h : wpList P ops Q (o :: rest) a W) : wpList P ops Q (o :: rest) a W := h
end

theorem only_setRow {S : Nat → Prop} {w w1 : World} (h : Only S w w1) {g : Nat} (hg : S g ∨ w.heap.size ≤ g) (cs : Array Value) : Only S w (w1.setRow g cs) :=
  h.then_ (S2 := fun k => k = g) ⟨rfl, rfl, rfl, by simp, fun k _ hn => setRow_other w1 g k _ hn⟩ (fun k hk => by rw [hk]; exact hg)

section
variable {w0 w : World} {g : Nat} {K : Kst} {A : Option Addr} {c : Nat} {σ : St} {v : Value}

theorem Gm.only0 {w' : World} (h : Gm w0 w g K A c σ v) (k : Only (fun _ => False) w w') : Gm w0 w' g K A c σ v :=
  ⟨k.blk h.blk (fun h => h), h.row.only k (fun _ _ h => h), h.ge, h.ans, k.below h.bel h.bel.size (fun _ h => h.elim)⟩

theorem late_p (h : Gm w0 w g K A c σ v) : Calls Try.prog 15 #[.pointer (some ⟨g, 0, none⟩)] w fun e w' => e = .returned (.agg #[.int .i64 4, .int .i64 K.dl, .int .i64 σ.sent, .int .i64 0]) ∧ Only (fun _ => False) w w' := by
  have hO := (Only.refl (fun _ => False) w).alloc (.cells #[.int .i64 0, .int .i64 0, .int .i64 0, .int .i64 0] 25)
  have HO := Lib.hid hO
  have hb := hO.blk h.blk (fun h => h)
  have HK := Lib.hid (heap_alloc_new w (.cells #[.int .i64 0, .int .i64 0, .int .i64 0, .int .i64 0] 25))
  have hc2 : (w.alloc (.cells #[.int .i64 0, .int .i64 0, .int .i64 0, .int .i64 0] 25)).cell? ⟨g, 2, none⟩ = some (.int .i64 K.dl) := cell_at hb 2 rfl
  have hc4 : (w.alloc (.cells #[.int .i64 0, .int .i64 0, .int .i64 0, .int .i64 0] 25)).cell? ⟨g, 4, none⟩ = some (.int .i64 σ.sent) := cell_at hb 4 rfl
  clear h hO hb
  go_enter Try.func15, Try.ntmps15
  go_wp2
  generalize w.alloc (.cells #[.int .i64 0, .int .i64 0, .int .i64 0, .int .i64 0] 25) = w1 at *
  go_still_tail 9, (by kernel_rfl)
  repeat still_step
  change wpList _ _ _ _ _ w1.drew
  have HKd : Hid (w1.drew.heap[w.heap.size]? = some (.cells #[.int .i64 0, .int .i64 0, .int .i64 0, .int .i64 0] 25 (0, 0))) := HK
  have HOd : Hid (Only (fun _ => False) w w1.drew) := Lib.hid HO.out.drew
  go_wp2_with ((with_reducible refine gate_store (ty := 25) (x := .tmp 2) (y := .tmp 11) rfl ?_); go_loud (refine wpList_store_row rfl 25 (.tmp 2) (.tmp 11) rfl w.heap.size #[.int .i64 4, .int .i64 K.dl, .int .i64 σ.sent, .int .i64 0] rfl rfl 25 _ HKd.out (by kernel_rfl) rfl (by simp [Value.oneCell']) ?_))
  (try simp only [Exit.inBlock, Exit.then])
  exact bodyPost_ret (results_cell_row rfl _ _ w.heap.size 25 _ (0, 0) _ rfl (setRow_heap _ _ _ _ _ _ HKd.out) Try.underlying25 rfl (by kernel_rfl)) rfl ⟨rfl, only_setRow HOd.out (.inr (Nat.le_refl _)) _⟩

theorem encD_at : ∀ (L : List Due) (i j : Nat) (p : Due), L[i]? = some p → j < 3 → (L.flatMap encD)[i * 3 + j]? = (encD p)[j]?
  | [], i, j, p, h, _ => by simp at h
  | q :: L, 0, j, p, h, hj => by
    simp at h
    subst h
    rw [List.flatMap_cons, List.getElem?_append_left (by simp [encD]; omega)]
    congr 1
    omega
  | q :: L, i + 1, j, p, h, hj => by
    have := encD_at L i j p (by simpa using h) hj
    rw [List.flatMap_cons, List.getElem?_append_right (by simp [encD]; omega), ← this]
    congr 1
    simp [encD]
    omega

theorem encD_len (L : List Due) : (L.flatMap encD).length = L.length * 3 := by
  induction L with
  | nil => rfl
  | cons q L ih => rw [List.flatMap_cons, List.length_append, ih]; simp [encD]; omega

theorem encD_one (L : List Due) : ∀ u ∈ L.flatMap encD, u.oneCell' = true := by
  intro u hu
  obtain ⟨x, _, hx⟩ := List.mem_flatMap.1 hu
  simp [encD] at hx
  rcases hx with rfl | rfl | rfl <;> rfl

/-- The place of the first of the least ones. -/
theorem first_p (h : Gm w0 w g K A c σ v) (hl : σ.out.length ≤ 5) (h0 : 0 < σ.out.length) :
    Calls Try.prog 24 #[.pointer (some ⟨g, 0, none⟩)] w fun e w' => e = .returned (.int .i64 (firstN σ.out σ.out.length : Nat)) ∧ Only (fun _ => False) w w' := by
  obtain ⟨q, o, cc, rfl, _⟩ := h.row.some_ h0
  obtain ⟨n, hn⟩ : ∃ n, n = σ.out.length := ⟨_, rfl⟩
  have HN := Lib.hid hn
  have HF : Hid (∀ w' (i : Nat) (d : Due), Only (fun _ => False) w w' → σ.out[i]? = some d → w'.cell? ⟨q, o + i * 3, none⟩ = some (.int .i64 d.t) ∧ w'.cell? ⟨q, o + i * 3 + 1, none⟩ = some (.int .i64 d.who) ∧ w'.cell? ⟨q, o + i * 3 + 2, none⟩ = some (.int .i64 d.code)) := Lib.hid (fun w' i d ho hd => by
    have hr := h.row.only ho (fun _ _ h => h)
    exact ⟨hr.cell (i * 3) (encD_at σ.out i 0 _ hd (by omega)), hr.cell (i * 3 + 1) (encD_at σ.out i 1 _ hd (by omega)), hr.cell (i * 3 + 2) (encD_at σ.out i 2 _ hd (by omega))⟩)
  have HB := Lib.hid h.blk
  rw [← hn] at HB hl h0 ⊢
  have hc6 : w.cell? ⟨g, 6, none⟩ = some (.slice (some ⟨q, o, none⟩) n cc) := cell_at HB.out 6 rfl
  clear h hn
  go_enter Try.func24, Try.ntmps24
  go_wp2
  go_loopw [3, 11] (fun va vi wr => ∃ i : Nat, va = .int .i64 (firstN σ.out i : Nat) ∧ vi = .int .i64 (i : Int) ∧ i ≤ n ∧ Hid (Only (fun _ => False) w wr)) (fun _ vi _ => n - (intOf vi).toNat)
  case atStart => exact ⟨0, rfl, rfl, by omega, Lib.hid (Only.refl _ _)⟩
  case round =>
    obtain ⟨i, rfl, rfl, hi, HO⟩ := hrel
    have hgo : i < n ∨ i = n := by omega
    rcases hgo with hlt | rfl
    · have hlt' : (i : Int) < n := by omega
      obtain ⟨d, hd⟩ : ∃ d, σ.out[i]? = some d := ⟨σ.out[i]'(by have := HN.out; omega), List.getElem?_eq_getElem _⟩
      have hfl : firstN σ.out i < n := by
        by_cases hi0 : i = 0
        · subst hi0; simp [firstN]; omega
        · have := firstN_lt σ.out i (by omega); omega
      obtain ⟨k, hk⟩ : ∃ k, firstN σ.out i = k := ⟨_, rfl⟩
      rw [hk] at hfl ⊢
      have hkl' : (k : Int) < n := by omega
      obtain ⟨b, hb⟩ : ∃ b, σ.out[k]? = some b := ⟨σ.out[k]'(by have := HN.out; omega), List.getElem?_eq_getElem _⟩
      have HFS : Hid (firstN σ.out (i + 1) = if d.t < b.t then i else k) := Lib.hid (by show (if _ then _ else _) = _; rw [hk, List.getD_eq_getElem?_getD, List.getD_eq_getElem?_getD, hd, hb]; rfl)
      obtain ⟨a0, a1, a2⟩ := HF.out wr i d HO.out hd
      have HO2 := Lib.hid (HO.out.alloc (.cells #[.int .i64 d.t, .int .i64 d.who, .int .i64 d.code] 51))
      obtain ⟨b0, b1, b2⟩ := HF.out _ k b HO2.out hb
      have hg6 : (wr.alloc (.cells #[.int .i64 d.t, .int .i64 d.who, .int .i64 d.code] 51)).cell? ⟨g, 6, none⟩ = some (.slice (some ⟨q, o, none⟩) n cc) := HO2.out.cell hc6 (fun h => h)
      clear hd hb hk
      by_cases hlt2 : d.t < b.t
      · rw [if_pos hlt2] at HFS
        go_wp2
        go_quiet (fail)
        go_wp2
        go_roundw
        case rel => exact ⟨i + 1, by rw [HFS.out], by go_num, by omega, Lib.hid (HO2.out.drewN _)⟩
        case measure => simp [intOf]; omega
      · rw [if_neg hlt2] at HFS
        go_wp2
        go_quiet (fail)
        go_wp2
        go_roundw
        case rel => exact ⟨i + 1, by rw [HFS.out], by go_num, by omega, Lib.hid (HO2.out.drewN _)⟩
        case measure => simp [intOf]; omega
    · have hge : ¬ (i : Int) < i := by omega
      go_wp2
      go_ret
      exact ⟨rfl, HO.out⟩
end

end Go.Proofs.Ytpkmpbocgbmliaa.Hd

/- Ring: Owner. -/
import Derived.Test.YtbjepnneklnenaaRgW
import Derived.Deep.RegionHeld3
set_option linter.unusedVariables false
set_option linter.unusedSimpArgs false
set_option maxRecDepth 100000
namespace Go.Proofs.Ytbjepnneklnenaa.Rg
open Go.RowKit Go.Maps Go.Shelf Go.Lib Go.Sort Go.Proofs.Ytbjepnneklnenaa.Base Go.Proofs.Ytbjepnneklnenaa.Rws Go.Proofs.Ytbjepnneklnenaa.Crc Go.Proofs.YtbjepnneklnenaaW.PrintWords Go.Proofs.YtbjepnneklnenaaW.PrintMore
attribute [local go_sem] max2_mx min2_mn max_two min_two max_three min_three max_four min_four

theorem owner_nil (key : ByteArray) (w : World) : Calls Try.prog 10 #[.pointer none, .string key] w fun e w' => e = .returned (.tuple #[.int .i64 0, .bool false]) ∧ w = w' := by
  go_enter Try.func10, Try.ntmps10
  go_wp2_with (go_at_call 12; refine (points_nil _).mono ?_; rintro e w' ⟨rfl, rfl⟩)
  go_ret2
  exact ⟨rfl, rfl⟩

theorem owner_empty {w : World} {g : Nat} {Q : Nat → Prop} {v1 v2 : Value} {M : List Int} (h : RG w g Q v1 v2 M []) (key : ByteArray) : Calls Try.prog 10 #[.pointer (some ⟨g, 0, none⟩), .string key] w fun e w' => e = .returned (.tuple #[.int .i64 0, .bool false]) ∧ w = w' := by
  have HP := Lib.hid (points_p h)
  clear h
  go_enter Try.func10, Try.ntmps10
  go_wp2_with (go_at_call 12; refine HP.out.mono ?_; rintro e w' ⟨rfl, rfl⟩)
  go_ret2
  exact ⟨rfl, rfl⟩

/-- To whom a sum goes. -/
def Goes (P : List Pt) (A : Int) (o : Int) : Prop := ∃ (i k : Nat) (p : Pt), LB P A i ∧ i ≤ P.length ∧ ((i < P.length ∧ k = i) ∨ (i = P.length ∧ k = 0)) ∧ P[k]? = some p ∧ o = p.m

set_option maxHeartbeats 4000000 in
theorem owner_p {w : World} {g : Nat} {Q : Nat → Prop} {v1 v2 : Value} {M : List Int} {P : List Pt} (h : RG w g Q v1 v2 M P) (hl : P.length ≤ 20000) (h0 : 0 < P.length) (hs : P.Pairwise (fun a b => leP a b = true)) (key : ByteArray) (hk : key.size ≤ 100000) :
    Calls Try.prog 10 #[.pointer (some ⟨g, 0, none⟩), .string key] w fun e w' => ∃ o, e = .returned (.tuple #[.int .i64 o, .bool true]) ∧ Goes P (sumZ key) o ∧ Only (fun _ => False) w w' := by
  obtain ⟨A2, c2, hv, _⟩ := Row.form h.ps
  subst hv
  have HP := Lib.hid (points_p h)
  have HRG := Lib.hid h
  have HS : Hid (∀ w', Only (fun _ => False) w w' → Calls Try.prog 25 #[.slice A2 P.length c2, .int .u16 (sumZ key), .func (.func 26) #[] #[]] w' fun e w'' => ∃ i : Nat, e = .returned (.tuple #[.int .i64 (i : Int), .bool false]) ∧ i ≤ P.length ∧ LB P (sumZ key) i ∧ Only (fun _ => False) w' w'') := Lib.hid (fun w' ho => search_p (h.only ho (fun _ _ _ h => h)).ps hl hs (sumZ key))
  have HC := Lib.hid (fun w => crc_p key w hk)
  have KE : Hid (∀ w', Only (fun _ => False) w w' → w'.cell? ⟨g, 1, none⟩ = some (.slice A2 P.length c2)) := Lib.hid (fun w' ho => cell_at (ho.blk h.blk (fun h => h)) 1 rfl)
  obtain ⟨n, hn⟩ : ∃ n, n = P.length := ⟨_, rfl⟩
  have HN := Lib.hid hn
  rw [← hn] at HP HS KE hl h0
  obtain ⟨A, hA⟩ : ∃ A, A = sumZ key := ⟨_, rfl⟩
  rw [← hA] at HS HC ⊢
  have HOc : Hid (Only (fun _ => False) w w) := Lib.hid (Only.refl _ _)
  have y1 := KE.out _ HOc.out
  have hn0 : ¬ (n : Int) = 0 := by omega
  clear hA hn h hs hk
  go_enter Try.func10, Try.ntmps10
  go_wp2_with (go_at_call 12; refine HP.out.mono ?_; rintro e w' ⟨rfl, rfl⟩)
  go_region_held3 (fun w' => w'.cell? ⟨g, 1, none⟩ = some (.slice A2 n c2)) (first | exact KE.out _ HOc.out | exact KE.out _ HOc.out.drew) (first
    | (go_at_call 21; refine (HC.out _).mono ?_; rintro e w1 ⟨rfl, ho⟩; have HOd : Hid (Only (fun _ => False) w w1) := Lib.hid (HOc.out.drew.trans ho); clear ho HOc; have HOc := HOd; clear HOd)
    | (go_at_call 25; refine (HS.out _ HOc.out).mono ?_; rintro e w2 ⟨i, rfl, hi, hlb, ho⟩; have HOd : Hid (Only (fun _ => False) w w2) := Lib.hid (HOc.out.trans ho); have HLB := Lib.hid hlb; clear ho HOc hlb; have HOc := HOd; clear HOd))
  have hkn : ∃ k : Nat, ((i < n ∧ k = i) ∨ (i = n ∧ k = 0)) := by
    rcases Nat.lt_or_ge i n with h | h
    · exact ⟨i, .inl ⟨h, rfl⟩⟩
    · exact ⟨0, .inr ⟨by omega, rfl⟩⟩
  obtain ⟨k, hkk⟩ := hkn
  have hrem : (i : Int).tmod (n : Int) = (k : Int) := by
    rw [Int.tmod_eq_emod_of_nonneg (by omega)]
    rcases hkk with ⟨h1, rfl⟩ | ⟨rfl, rfl⟩
    · exact Int.emod_eq_of_lt (by omega) (by omega)
    · simp
  have hkn : k < n := by omega
  have hkn' : (k : Int) < (n : Int) := by omega
  obtain ⟨p, hp⟩ : ∃ p, P[k]? = some p := ⟨_, List.getElem?_eq_getElem (by rw [← HN.out]; omega)⟩
  have hr := Row.only HRG.out.ps HOc.out (fun _ _ h => h)
  rw [← HN.out] at hr
  obtain ⟨q2, o2, c3, he, hcc⟩ := Row.some_ hr (by omega)
  injection he with e1 e2 e3
  subst e1 e3
  have x1 : w2.cell? ⟨q2, o2 + k * 3 + 1, none⟩ = some (.int .i64 p.m) := Row.cell hr (k * 3 + 1) (by rw [encP_at P k 1 p hp (by omega)]; rfl)
  have y2 := KE.out _ HOc.out
  have HG : Hid (Goes P A p.m) := Lib.hid ⟨i, k, p, HLB.out, by rw [← HN.out]; exact hi, by rw [← HN.out]; exact hkk, hp, rfl⟩
  obtain ⟨pm, hpm⟩ : ∃ pm, pm = p.m := ⟨_, rfl⟩
  rw [← hpm] at HG x1
  clear hr hcc hp hpm hkk
  go_upto_region 4 with fail
  go_quiet (fail)
  go_wp2
  go_ret2
  exact ⟨_, rfl, HG.out, HOc.out.drewN _⟩
end Go.Proofs.Ytbjepnneklnenaa.Rg

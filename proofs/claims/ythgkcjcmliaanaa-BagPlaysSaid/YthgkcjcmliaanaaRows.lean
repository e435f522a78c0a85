/-
  No cell of these rows narrows 'for every input' (looked for: loops, veiled, ifaces, maps, wideKeys, modest, calm, conditions, laid).
  DERIVED. THE GIVEN ROWS OF THIS SEAT. 3 by the template 'for every input the law returns true; each argument reads behind the call as it read before'; 0 by the template 'total and deterministic' (their statements: YthgkcjcmliaanaaTotals.lean).
  GIVEN WITH THE SEED: the statements are not yours to turn. If you find one false, say at which input.
  Laid BY PROGRAM, IN A SANDBOX (cutbox-rows.mjs): the forced cells as the released guide's own fill.sh prints them over the translation 4b625a1d55fe1d98… (all of the seat's roots in one cut). By AI agents, Wed Nov 11 2026. No macro, syntax, notation, axiom, sorry.
-/
import Derived.Test.YthgkcjcmliaanaaChecked
import GoSem.Claim
import GoSem.ClaimJoined
import GoSem.ClaimMapViews
import Derived.JoinedTies
import Derived.KernelRfl
namespace Go.Proofs.Ythgkcjcmliaanaa
/- THE CELL 'sum', in the pinned program and in every row, IS THE sha256 OF THE DUMP (.gsa) THAT YthgkcjcmliaanaaProg.lean LOADS. Nothing in Lean hashes anything: it is a label: what it is worth is what the hold of that sum in a sandbox is worth. -/
noncomputable def Try.pinned : Pinned := { name := "ythgkcjcmliaanaa", sum := "4b625a1d55fe1d98e48d1a3dd8629d721d4cb61395b965e3fd7243c73657cb99", checked := Try.checked }
namespace Rows
def none {H : Type} : Left H := { results := [], args := [] }

/-- 'hourglasslaw13.BagHurts': WHATEVER THE INPUT: true; the input reads as it did. -/
def bagHurtsSpec : ChangeSpec := { name := "bagHurts", fn := fun _ => fun
  | [d1, d2] => { results := [.lit (.bool true)], args := [d1, d2] }
  | _ => none }
def bagHurtsRow : OpenClaim := { program := "ythgkcjcmliaanaa", sum := "4b625a1d55fe1d98e48d1a3dd8629d721d4cb61395b965e3fd7243c73657cb99", func := "hourglass/hourglasslaw13.BagHurts", spec := "bagHurts", apart := false }
def BagHurtsSaid : Prop := bagHurtsRow.holds Try.pinned (OpenSpec.ofChange bagHurtsSpec)

/-- ITS FALSE NEIGHBOUR: 'it returns false'. Refute it at one input. -/
def bagHurtsWrong : ChangeSpec := { name := "bagHurts", fn := fun _ => fun
  | [d1, d2] => { results := [.lit (.bool false)], args := [d1, d2] }
  | _ => none }
def BagHurtsWrongFalsely : Prop := bagHurtsRow.holds Try.pinned (OpenSpec.ofChange bagHurtsWrong)

/-- 'hourglasslaw13.BagPlays': WHATEVER THE INPUT: true; the input reads as it did. -/
def bagPlaysSpec : ChangeSpec := { name := "bagPlays", fn := fun _ => fun
  | [d] => { results := [.lit (.bool true)], args := [d] }
  | _ => none }
def bagPlaysRow : OpenClaim := { program := "ythgkcjcmliaanaa", sum := "4b625a1d55fe1d98e48d1a3dd8629d721d4cb61395b965e3fd7243c73657cb99", func := "hourglass/hourglasslaw13.BagPlays", spec := "bagPlays", apart := false }
def BagPlaysSaid : Prop := bagPlaysRow.holds Try.pinned (OpenSpec.ofChange bagPlaysSpec)

/-- ITS FALSE NEIGHBOUR: 'it returns false'. Refute it at one input. -/
def bagPlaysWrong : ChangeSpec := { name := "bagPlays", fn := fun _ => fun
  | [d] => { results := [.lit (.bool false)], args := [d] }
  | _ => none }
def BagPlaysWrongFalsely : Prop := bagPlaysRow.holds Try.pinned (OpenSpec.ofChange bagPlaysWrong)

/-- 'hourglasslaw13.BagNone': WHATEVER THE INPUT: true; the input reads as it did. -/
def bagNoneSpec : ChangeSpec := { name := "bagNone", fn := fun _ => fun
  | [d1, d2] => { results := [.lit (.bool true)], args := [d1, d2] }
  | _ => none }
def bagNoneRow : OpenClaim := { program := "ythgkcjcmliaanaa", sum := "4b625a1d55fe1d98e48d1a3dd8629d721d4cb61395b965e3fd7243c73657cb99", func := "hourglass/hourglasslaw13.BagNone", spec := "bagNone", apart := false }
def BagNoneSaid : Prop := bagNoneRow.holds Try.pinned (OpenSpec.ofChange bagNoneSpec)

/-- ITS FALSE NEIGHBOUR: 'it returns false'. Refute it at one input. -/
def bagNoneWrong : ChangeSpec := { name := "bagNone", fn := fun _ => fun
  | [d1, d2] => { results := [.lit (.bool false)], args := [d1, d2] }
  | _ => none }
def BagNoneWrongFalsely : Prop := bagNoneRow.holds Try.pinned (OpenSpec.ofChange bagNoneWrong)

/- THE SECOND FORM. 'bulk': how many values and letters a reading holds, each counted each time it is reached (what is shared counts as often as it is met; a slice's spare places count too). A statement '..UptoSaid' is the law's where the arguments, and the package variables that the reading takes, are together of bulk at most 1048576: NARROWER than '..Said'. Prove '..Said' where nothing that the law and all that it calls make is longer than what came in: it says more and counts as full. Else prove '..UptoSaid'. A law counts once. -/
mutual
def uptoBulk {H : Type} : DataW H → Nat
  | .lit (.string bytes) => bytes.length + 1
  | .lit _ => 1
  | .nil => 1
  | .ptr d => uptoBulk d + 1
  | .slice elems spare => uptoBulkAll elems + uptoBulkAll spare + 1
  | .agg parts => uptoBulkAll parts + 1
  | .iface _ d => uptoBulk d + 1
  | .map entries => uptoBulkEntries entries + 1
  | .held _ => 1
def uptoBulkAll {H : Type} : List (DataW H) → Nat
  | [] => 0
  | d :: r => uptoBulk d + uptoBulkAll r
def uptoBulkEntries {H : Type} : List (Lit × DataW H) → Nat
  | [] => 0
  | x :: r => uptoBulkEntry x + uptoBulkEntries r
def uptoBulkEntry {H : Type} : Lit × DataW H → Nat
  | (.string bytes, d) => bytes.length + uptoBulk d + 1
  | (_, d) => uptoBulk d + 1
 end
def uptoSmall : (H : Type) → List (DataW H) → Bool := fun _ ds => decide (uptoBulkAll ds ≤ 1048576)
def OpenSpec.upto (s : _root_.Go.ChangeSpec) : _root_.Go.OpenSpec := { _root_.Go.OpenSpec.ofChange s with cond := some uptoSmall }

/-- 'hourglasslaw13.BagHurts', WHERE WHAT IT READS IS OF BULK AT MOST 1048576: true; the input reads as it did. -/
def bagHurtsUptoRow : OpenClaim := { program := "ythgkcjcmliaanaa", sum := "4b625a1d55fe1d98e48d1a3dd8629d721d4cb61395b965e3fd7243c73657cb99", func := "hourglass/hourglasslaw13.BagHurts", spec := "bagHurts", apart := false, narrowed := true }
def BagHurtsUptoSaid : Prop := bagHurtsUptoRow.holds Try.pinned (OpenSpec.upto bagHurtsSpec)

/-- 'hourglasslaw13.BagPlays', WHERE WHAT IT READS IS OF BULK AT MOST 1048576: true; the input reads as it did. -/
def bagPlaysUptoRow : OpenClaim := { program := "ythgkcjcmliaanaa", sum := "4b625a1d55fe1d98e48d1a3dd8629d721d4cb61395b965e3fd7243c73657cb99", func := "hourglass/hourglasslaw13.BagPlays", spec := "bagPlays", apart := false, narrowed := true }
def BagPlaysUptoSaid : Prop := bagPlaysUptoRow.holds Try.pinned (OpenSpec.upto bagPlaysSpec)

/-- 'hourglasslaw13.BagNone', WHERE WHAT IT READS IS OF BULK AT MOST 1048576: true; the input reads as it did. -/
def bagNoneUptoRow : OpenClaim := { program := "ythgkcjcmliaanaa", sum := "4b625a1d55fe1d98e48d1a3dd8629d721d4cb61395b965e3fd7243c73657cb99", func := "hourglass/hourglasslaw13.BagNone", spec := "bagNone", apart := false, narrowed := true }
def BagNoneUptoSaid : Prop := bagNoneUptoRow.holds Try.pinned (OpenSpec.upto bagNoneSpec)

end Rows
end Go.Proofs.Ythgkcjcmliaanaa

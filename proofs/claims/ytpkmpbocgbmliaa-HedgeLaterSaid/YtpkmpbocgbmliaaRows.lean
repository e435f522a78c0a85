/-
  No cell of these rows narrows 'for every input' (looked for: loops, veiled, ifaces, maps, wideKeys, modest, calm, conditions, laid).
  DERIVED. THE GIVEN ROWS OF THIS SEAT. 4 by the template 'for every input the law returns true; each argument reads behind the call as it read before'; 0 by the template 'total and deterministic' (their statements: YtpkmpbocgbmliaaTotals.lean).
  GIVEN WITH THE SEED: the statements are not yours to turn. If you find one false, say at which input.
  Laid BY PROGRAM, IN A SANDBOX (cutbox-rows.mjs): the forced cells as the released guide's own fill.sh prints them over the translation 8976c47fac083dfd… (all of the seat's roots in one cut). By AI agents, Wed Nov 11 2026. No macro, syntax, notation, axiom, sorry.
-/
import Derived.Test.YtpkmpbocgbmliaaChecked
import GoSem.Claim
import GoSem.ClaimJoined
import GoSem.ClaimMapViews
import Derived.JoinedTies
import Derived.KernelRfl
namespace Go.Proofs.Ytpkmpbocgbmliaa
/- THE CELL 'sum', in the pinned program and in every row, IS THE sha256 OF THE DUMP (.gsa) THAT YtpkmpbocgbmliaaProg.lean LOADS. Nothing in Lean hashes anything: it is a label: what it is worth is what the hold of that sum in a sandbox is worth. -/
noncomputable def Try.pinned : Pinned := { name := "ytpkmpbocgbmliaa", sum := "8976c47fac083dfdc41fdc125aa560bc98ab35d79a32a34bbf1ec5fe495afddb", checked := Try.checked }
namespace Rows
def none {H : Type} : Left H := { results := [], args := [] }

/-- 'hourglasslaw39.HedgePlays': WHATEVER THE INPUT: true; the input reads as it did. -/
def hedgePlaysSpec : ChangeSpec := { name := "hedgePlays", fn := fun _ => fun
  | [d1, d2, d3, d4] => { results := [.lit (.bool true)], args := [d1, d2, d3, d4] }
  | _ => none }
def hedgePlaysRow : OpenClaim := { program := "ytpkmpbocgbmliaa", sum := "8976c47fac083dfdc41fdc125aa560bc98ab35d79a32a34bbf1ec5fe495afddb", func := "hourglass/hourglasslaw39.HedgePlays", spec := "hedgePlays", apart := false }
def HedgePlaysSaid : Prop := hedgePlaysRow.holds Try.pinned (OpenSpec.ofChange hedgePlaysSpec)

/-- ITS FALSE NEIGHBOUR: 'it returns false'. Refute it at one input. -/
def hedgePlaysWrong : ChangeSpec := { name := "hedgePlays", fn := fun _ => fun
  | [d1, d2, d3, d4] => { results := [.lit (.bool false)], args := [d1, d2, d3, d4] }
  | _ => none }
def HedgePlaysWrongFalsely : Prop := hedgePlaysRow.holds Try.pinned (OpenSpec.ofChange hedgePlaysWrong)

/-- 'hourglasslaw39.HedgeBounds': WHATEVER THE INPUT: true; the input reads as it did. -/
def hedgeBoundsSpec : ChangeSpec := { name := "hedgeBounds", fn := fun _ => fun
  | [d1, d2, d3, d4] => { results := [.lit (.bool true)], args := [d1, d2, d3, d4] }
  | _ => none }
def hedgeBoundsRow : OpenClaim := { program := "ytpkmpbocgbmliaa", sum := "8976c47fac083dfdc41fdc125aa560bc98ab35d79a32a34bbf1ec5fe495afddb", func := "hourglass/hourglasslaw39.HedgeBounds", spec := "hedgeBounds", apart := false }
def HedgeBoundsSaid : Prop := hedgeBoundsRow.holds Try.pinned (OpenSpec.ofChange hedgeBoundsSpec)

/-- ITS FALSE NEIGHBOUR: 'it returns false'. Refute it at one input. -/
def hedgeBoundsWrong : ChangeSpec := { name := "hedgeBounds", fn := fun _ => fun
  | [d1, d2, d3, d4] => { results := [.lit (.bool false)], args := [d1, d2, d3, d4] }
  | _ => none }
def HedgeBoundsWrongFalsely : Prop := hedgeBoundsRow.holds Try.pinned (OpenSpec.ofChange hedgeBoundsWrong)

/-- 'hourglasslaw39.HedgeSooner': WHATEVER THE INPUT: true; the input reads as it did. -/
def hedgeSoonerSpec : ChangeSpec := { name := "hedgeSooner", fn := fun _ => fun
  | [d1, d2, d3, d4] => { results := [.lit (.bool true)], args := [d1, d2, d3, d4] }
  | _ => none }
def hedgeSoonerRow : OpenClaim := { program := "ytpkmpbocgbmliaa", sum := "8976c47fac083dfdc41fdc125aa560bc98ab35d79a32a34bbf1ec5fe495afddb", func := "hourglass/hourglasslaw39.HedgeSooner", spec := "hedgeSooner", apart := false }
def HedgeSoonerSaid : Prop := hedgeSoonerRow.holds Try.pinned (OpenSpec.ofChange hedgeSoonerSpec)

/-- ITS FALSE NEIGHBOUR: 'it returns false'. Refute it at one input. -/
def hedgeSoonerWrong : ChangeSpec := { name := "hedgeSooner", fn := fun _ => fun
  | [d1, d2, d3, d4] => { results := [.lit (.bool false)], args := [d1, d2, d3, d4] }
  | _ => none }
def HedgeSoonerWrongFalsely : Prop := hedgeSoonerRow.holds Try.pinned (OpenSpec.ofChange hedgeSoonerWrong)

/-- 'hourglasslaw39.HedgeLater': WHATEVER THE INPUT: true; the input reads as it did. -/
def hedgeLaterSpec : ChangeSpec := { name := "hedgeLater", fn := fun _ => fun
  | [d1, d2, d3, d4, d5] => { results := [.lit (.bool true)], args := [d1, d2, d3, d4, d5] }
  | _ => none }
def hedgeLaterRow : OpenClaim := { program := "ytpkmpbocgbmliaa", sum := "8976c47fac083dfdc41fdc125aa560bc98ab35d79a32a34bbf1ec5fe495afddb", func := "hourglass/hourglasslaw39.HedgeLater", spec := "hedgeLater", apart := false }
def HedgeLaterSaid : Prop := hedgeLaterRow.holds Try.pinned (OpenSpec.ofChange hedgeLaterSpec)

/-- ITS FALSE NEIGHBOUR: 'it returns false'. Refute it at one input. -/
def hedgeLaterWrong : ChangeSpec := { name := "hedgeLater", fn := fun _ => fun
  | [d1, d2, d3, d4, d5] => { results := [.lit (.bool false)], args := [d1, d2, d3, d4, d5] }
  | _ => none }
def HedgeLaterWrongFalsely : Prop := hedgeLaterRow.holds Try.pinned (OpenSpec.ofChange hedgeLaterWrong)

/- THE SECOND FORM. 'bulk': how many values and letters a reading holds, each counted each time it is reached (what is shared counts as often as it is met; a slice's spare places count too). A statement '..UptoSaid' is the law's where the arguments, and the package variables that the reading takes, are together of bulk at most 1048576: NARROWER than '..Said'. Prove '..Said' where nothing that the law and all that it calls make is longer than what came in: it says more and counts as full. Else prove '..UptoSaid'. A law counts once. -/
mutual
def uptoBulk {H : Type} : DataW H → Nat
  | .lit (.string bytes) => bytes.length + 1
  | .lit _ => 1
  | .nil => 1
  | .ptr d => uptoBulk d + 1
  | .slice elems spare => uptoBulkAll elems + uptoBulkAll spare + 1
  | .agg parts => uptoBulkAll parts + 1
  | .iface _ d => uptoBulk d + 1
  | .map entries => uptoBulkEntries entries + 1
  | .held _ => 1
def uptoBulkAll {H : Type} : List (DataW H) → Nat
  | [] => 0
  | d :: r => uptoBulk d + uptoBulkAll r
def uptoBulkEntries {H : Type} : List (Lit × DataW H) → Nat
  | [] => 0
  | x :: r => uptoBulkEntry x + uptoBulkEntries r
def uptoBulkEntry {H : Type} : Lit × DataW H → Nat
  | (.string bytes, d) => bytes.length + uptoBulk d + 1
  | (_, d) => uptoBulk d + 1
 end
def uptoSmall : (H : Type) → List (DataW H) → Bool := fun _ ds => decide (uptoBulkAll ds ≤ 1048576)
def OpenSpec.upto (s : _root_.Go.ChangeSpec) : _root_.Go.OpenSpec := { _root_.Go.OpenSpec.ofChange s with cond := some uptoSmall }

/-- 'hourglasslaw39.HedgePlays', WHERE WHAT IT READS IS OF BULK AT MOST 1048576: true; the input reads as it did. -/
def hedgePlaysUptoRow : OpenClaim := { program := "ytpkmpbocgbmliaa", sum := "8976c47fac083dfdc41fdc125aa560bc98ab35d79a32a34bbf1ec5fe495afddb", func := "hourglass/hourglasslaw39.HedgePlays", spec := "hedgePlays", apart := false, narrowed := true }
def HedgePlaysUptoSaid : Prop := hedgePlaysUptoRow.holds Try.pinned (OpenSpec.upto hedgePlaysSpec)

/-- 'hourglasslaw39.HedgeBounds', WHERE WHAT IT READS IS OF BULK AT MOST 1048576: true; the input reads as it did. -/
def hedgeBoundsUptoRow : OpenClaim := { program := "ytpkmpbocgbmliaa", sum := "8976c47fac083dfdc41fdc125aa560bc98ab35d79a32a34bbf1ec5fe495afddb", func := "hourglass/hourglasslaw39.HedgeBounds", spec := "hedgeBounds", apart := false, narrowed := true }
def HedgeBoundsUptoSaid : Prop := hedgeBoundsUptoRow.holds Try.pinned (OpenSpec.upto hedgeBoundsSpec)

/-- 'hourglasslaw39.HedgeSooner', WHERE WHAT IT READS IS OF BULK AT MOST 1048576: true; the input reads as it did. -/
def hedgeSoonerUptoRow : OpenClaim := { program := "ytpkmpbocgbmliaa", sum := "8976c47fac083dfdc41fdc125aa560bc98ab35d79a32a34bbf1ec5fe495afddb", func := "hourglass/hourglasslaw39.HedgeSooner", spec := "hedgeSooner", apart := false, narrowed := true }
def HedgeSoonerUptoSaid : Prop := hedgeSoonerUptoRow.holds Try.pinned (OpenSpec.upto hedgeSoonerSpec)

/-- 'hourglasslaw39.HedgeLater', WHERE WHAT IT READS IS OF BULK AT MOST 1048576: true; the input reads as it did. -/
def hedgeLaterUptoRow : OpenClaim := { program := "ytpkmpbocgbmliaa", sum := "8976c47fac083dfdc41fdc125aa560bc98ab35d79a32a34bbf1ec5fe495afddb", func := "hourglass/hourglasslaw39.HedgeLater", spec := "hedgeLater", apart := false, narrowed := true }
def HedgeLaterUptoSaid : Prop := hedgeLaterUptoRow.holds Try.pinned (OpenSpec.upto hedgeLaterSpec)

end Rows
end Go.Proofs.Ytpkmpbocgbmliaa

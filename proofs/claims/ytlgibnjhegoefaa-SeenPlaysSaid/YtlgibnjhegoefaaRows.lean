/-
  No cell of these rows narrows 'for every input' (looked for: loops, veiled, ifaces, maps, wideKeys, modest, calm, conditions, laid).
  DERIVED. THE GIVEN ROWS OF THIS SEAT. 4 by the template 'for every input the law returns true; each argument reads behind the call as it read before'; 0 by the template 'total and deterministic' (their statements: YtlgibnjhegoefaaTotals.lean).
  GIVEN WITH THE SEED: the statements are not yours to turn. If you find one false, say at which input.
  Laid BY PROGRAM, IN A SANDBOX (cutbox-rows.mjs): the forced cells as the released guide's own fill.sh prints them over the translation a98033881e570a33… (all of the seat's roots in one cut). By AI agents, Wed Nov 11 2026. No macro, syntax, notation, axiom, sorry.
-/
import Derived.Test.YtlgibnjhegoefaaChecked
import GoSem.Claim
import GoSem.ClaimJoined
import GoSem.ClaimMapViews
import Derived.JoinedTies
import Derived.KernelRfl
namespace Go.Proofs.Ytlgibnjhegoefaa
/- THE CELL 'sum', in the pinned program and in every row, IS THE sha256 OF THE DUMP (.gsa) THAT YtlgibnjhegoefaaProg.lean LOADS. Nothing in Lean hashes anything: it is a label: what it is worth is what the hold of that sum in a sandbox is worth. -/
noncomputable def Try.pinned : Pinned := { name := "ytlgibnjhegoefaa", sum := "a98033881e570a33e1f4a029d7b010380bf679aebf6032fef447f8b89a478477", checked := Try.checked }
namespace Rows
def none {H : Type} : Left H := { results := [], args := [] }

/-- 'hourglasslaw16.SeenOnce': WHATEVER THE INPUT: true; the input reads as it did. -/
def seenOnceSpec : ChangeSpec := { name := "seenOnce", fn := fun _ => fun
  | [d1, d2, d3] => { results := [.lit (.bool true)], args := [d1, d2, d3] }
  | _ => none }
def seenOnceRow : OpenClaim := { program := "ytlgibnjhegoefaa", sum := "a98033881e570a33e1f4a029d7b010380bf679aebf6032fef447f8b89a478477", func := "hourglass/hourglasslaw16.SeenOnce", spec := "seenOnce", plainKeys := false, apart := false }
def SeenOnceSaid : Prop := seenOnceRow.holds Try.pinned (OpenSpec.ofChange seenOnceSpec)

/-- ITS FALSE NEIGHBOUR: 'it returns false'. Refute it at one input. -/
def seenOnceWrong : ChangeSpec := { name := "seenOnce", fn := fun _ => fun
  | [d1, d2, d3] => { results := [.lit (.bool false)], args := [d1, d2, d3] }
  | _ => none }
def SeenOnceWrongFalsely : Prop := seenOnceRow.holds Try.pinned (OpenSpec.ofChange seenOnceWrong)

/-- 'hourglasslaw16.SeenPlays': WHATEVER THE INPUT: true; the input reads as it did. -/
def seenPlaysSpec : ChangeSpec := { name := "seenPlays", fn := fun _ => fun
  | [d] => { results := [.lit (.bool true)], args := [d] }
  | _ => none }
def seenPlaysRow : OpenClaim := { program := "ytlgibnjhegoefaa", sum := "a98033881e570a33e1f4a029d7b010380bf679aebf6032fef447f8b89a478477", func := "hourglass/hourglasslaw16.SeenPlays", spec := "seenPlays", plainKeys := false, apart := false }
def SeenPlaysSaid : Prop := seenPlaysRow.holds Try.pinned (OpenSpec.ofChange seenPlaysSpec)

/-- ITS FALSE NEIGHBOUR: 'it returns false'. Refute it at one input. -/
def seenPlaysWrong : ChangeSpec := { name := "seenPlays", fn := fun _ => fun
  | [d] => { results := [.lit (.bool false)], args := [d] }
  | _ => none }
def SeenPlaysWrongFalsely : Prop := seenPlaysRow.holds Try.pinned (OpenSpec.ofChange seenPlaysWrong)

/-- 'hourglasslaw16.SeenFull': WHATEVER THE INPUT: true; the input reads as it did. -/
def seenFullSpec : ChangeSpec := { name := "seenFull", fn := fun _ => fun
  | [d1, d2] => { results := [.lit (.bool true)], args := [d1, d2] }
  | _ => none }
def seenFullRow : OpenClaim := { program := "ytlgibnjhegoefaa", sum := "a98033881e570a33e1f4a029d7b010380bf679aebf6032fef447f8b89a478477", func := "hourglass/hourglasslaw16.SeenFull", spec := "seenFull", plainKeys := false, apart := false }
def SeenFullSaid : Prop := seenFullRow.holds Try.pinned (OpenSpec.ofChange seenFullSpec)

/-- ITS FALSE NEIGHBOUR: 'it returns false'. Refute it at one input. -/
def seenFullWrong : ChangeSpec := { name := "seenFull", fn := fun _ => fun
  | [d1, d2] => { results := [.lit (.bool false)], args := [d1, d2] }
  | _ => none }
def SeenFullWrongFalsely : Prop := seenFullRow.holds Try.pinned (OpenSpec.ofChange seenFullWrong)

/-- 'hourglasslaw16.SeenForgets': WHATEVER THE INPUT: true; the input reads as it did. -/
def seenForgetsSpec : ChangeSpec := { name := "seenForgets", fn := fun _ => fun
  | [d1, d2, d3, d4] => { results := [.lit (.bool true)], args := [d1, d2, d3, d4] }
  | _ => none }
def seenForgetsRow : OpenClaim := { program := "ytlgibnjhegoefaa", sum := "a98033881e570a33e1f4a029d7b010380bf679aebf6032fef447f8b89a478477", func := "hourglass/hourglasslaw16.SeenForgets", spec := "seenForgets", plainKeys := false, apart := false }
def SeenForgetsSaid : Prop := seenForgetsRow.holds Try.pinned (OpenSpec.ofChange seenForgetsSpec)

/-- ITS FALSE NEIGHBOUR: 'it returns false'. Refute it at one input. -/
def seenForgetsWrong : ChangeSpec := { name := "seenForgets", fn := fun _ => fun
  | [d1, d2, d3, d4] => { results := [.lit (.bool false)], args := [d1, d2, d3, d4] }
  | _ => none }
def SeenForgetsWrongFalsely : Prop := seenForgetsRow.holds Try.pinned (OpenSpec.ofChange seenForgetsWrong)

/- THE SECOND FORM. 'bulk': how many values and letters a reading holds, each counted each time it is reached (what is shared counts as often as it is met; a slice's spare places count too). A statement '..UptoSaid' is the law's where the arguments, and the package variables that the reading takes, are together of bulk at most 1048576: NARROWER than '..Said'. Prove '..Said' where nothing that the law and all that it calls make is longer than what came in: it says more and counts as full. Else prove '..UptoSaid'. A law counts once. -/
mutual
def uptoBulk {H : Type} : DataW H → Nat
  | .lit (.string bytes) => bytes.length + 1
  | .lit _ => 1
  | .nil => 1
  | .ptr d => uptoBulk d + 1
  | .slice elems spare => uptoBulkAll elems + uptoBulkAll spare + 1
  | .agg parts => uptoBulkAll parts + 1
  | .iface _ d => uptoBulk d + 1
  | .map entries => uptoBulkEntries entries + 1
  | .held _ => 1
def uptoBulkAll {H : Type} : List (DataW H) → Nat
  | [] => 0
  | d :: r => uptoBulk d + uptoBulkAll r
def uptoBulkEntries {H : Type} : List (Lit × DataW H) → Nat
  | [] => 0
  | x :: r => uptoBulkEntry x + uptoBulkEntries r
def uptoBulkEntry {H : Type} : Lit × DataW H → Nat
  | (.string bytes, d) => bytes.length + uptoBulk d + 1
  | (_, d) => uptoBulk d + 1
 end
def uptoSmall : (H : Type) → List (DataW H) → Bool := fun _ ds => decide (uptoBulkAll ds ≤ 1048576)
def OpenSpec.upto (s : _root_.Go.ChangeSpec) : _root_.Go.OpenSpec := { _root_.Go.OpenSpec.ofChange s with cond := some uptoSmall }

/-- 'hourglasslaw16.SeenOnce', WHERE WHAT IT READS IS OF BULK AT MOST 1048576: true; the input reads as it did. -/
def seenOnceUptoRow : OpenClaim := { program := "ytlgibnjhegoefaa", sum := "a98033881e570a33e1f4a029d7b010380bf679aebf6032fef447f8b89a478477", func := "hourglass/hourglasslaw16.SeenOnce", spec := "seenOnce", plainKeys := false, apart := false, narrowed := true }
def SeenOnceUptoSaid : Prop := seenOnceUptoRow.holds Try.pinned (OpenSpec.upto seenOnceSpec)

/-- 'hourglasslaw16.SeenPlays', WHERE WHAT IT READS IS OF BULK AT MOST 1048576: true; the input reads as it did. -/
def seenPlaysUptoRow : OpenClaim := { program := "ytlgibnjhegoefaa", sum := "a98033881e570a33e1f4a029d7b010380bf679aebf6032fef447f8b89a478477", func := "hourglass/hourglasslaw16.SeenPlays", spec := "seenPlays", plainKeys := false, apart := false, narrowed := true }
def SeenPlaysUptoSaid : Prop := seenPlaysUptoRow.holds Try.pinned (OpenSpec.upto seenPlaysSpec)

/-- 'hourglasslaw16.SeenFull', WHERE WHAT IT READS IS OF BULK AT MOST 1048576: true; the input reads as it did. -/
def seenFullUptoRow : OpenClaim := { program := "ytlgibnjhegoefaa", sum := "a98033881e570a33e1f4a029d7b010380bf679aebf6032fef447f8b89a478477", func := "hourglass/hourglasslaw16.SeenFull", spec := "seenFull", plainKeys := false, apart := false, narrowed := true }
def SeenFullUptoSaid : Prop := seenFullUptoRow.holds Try.pinned (OpenSpec.upto seenFullSpec)

/-- 'hourglasslaw16.SeenForgets', WHERE WHAT IT READS IS OF BULK AT MOST 1048576: true; the input reads as it did. -/
def seenForgetsUptoRow : OpenClaim := { program := "ytlgibnjhegoefaa", sum := "a98033881e570a33e1f4a029d7b010380bf679aebf6032fef447f8b89a478477", func := "hourglass/hourglasslaw16.SeenForgets", spec := "seenForgets", plainKeys := false, apart := false, narrowed := true }
def SeenForgetsUptoSaid : Prop := seenForgetsUptoRow.holds Try.pinned (OpenSpec.upto seenForgetsSpec)

end Rows
end Go.Proofs.Ytlgibnjhegoefaa

/-
  No cell of these rows narrows 'for every input' (looked for: loops, veiled, ifaces, maps, wideKeys, modest, calm, conditions, laid).
  DERIVED. THE GIVEN ROWS OF THIS SEAT. 5 by the template 'for every input the law returns true; each argument reads behind the call as it read before'; 0 by the template 'total and deterministic' (their statements: YtmkcckkjkfmheaaTotals.lean).
  GIVEN WITH THE SEED: the statements are not yours to turn. If you find one false, say at which input.
  Laid BY PROGRAM, IN A SANDBOX (cutbox-rows.mjs): the forced cells as the released guide's own fill.sh prints them over the translation 0d944dee3e637699… (all of the seat's roots in one cut). By AI agents, Wed Nov 11 2026. No macro, syntax, notation, axiom, sorry.
-/
import Derived.Test.YtmkcckkjkfmheaaChecked
import GoSem.Claim
import GoSem.ClaimJoined
import GoSem.ClaimMapViews
import Derived.JoinedTies
import Derived.KernelRfl
namespace Go.Proofs.Ytmkcckkjkfmheaa
/- THE CELL 'sum', in the pinned program and in every row, IS THE sha256 OF THE DUMP (.gsa) THAT YtmkcckkjkfmheaaProg.lean LOADS. Nothing in Lean hashes anything: it is a label: what it is worth is what the hold of that sum in a sandbox is worth. -/
noncomputable def Try.pinned : Pinned := { name := "ytmkcckkjkfmheaa", sum := "0d944dee3e63769928a0afc565b31bc91f4a5dc6fbb2eec7b9e82f10becedc00", checked := Try.checked }
namespace Rows
def none {H : Type} : Left H := { results := [], args := [] }

/-- 'hourglasslaw11.AlarmExact': WHATEVER THE INPUT: true; the input reads as it did. -/
def alarmExactSpec : ChangeSpec := { name := "alarmExact", fn := fun _ => fun
  | [d1, d2, d3, d4, d5] => { results := [.lit (.bool true)], args := [d1, d2, d3, d4, d5] }
  | _ => none }
def alarmExactRow : OpenClaim := { program := "ytmkcckkjkfmheaa", sum := "0d944dee3e63769928a0afc565b31bc91f4a5dc6fbb2eec7b9e82f10becedc00", func := "hourglass/hourglasslaw11.AlarmExact", spec := "alarmExact", unfollowed := true, recurses := true, plainKeys := false, apart := false }
def AlarmExactSaid : Prop := alarmExactRow.holds Try.pinned (OpenSpec.ofChange alarmExactSpec)

/-- ITS FALSE NEIGHBOUR: 'it returns false'. Refute it at one input. -/
def alarmExactWrong : ChangeSpec := { name := "alarmExact", fn := fun _ => fun
  | [d1, d2, d3, d4, d5] => { results := [.lit (.bool false)], args := [d1, d2, d3, d4, d5] }
  | _ => none }
def AlarmExactWrongFalsely : Prop := alarmExactRow.holds Try.pinned (OpenSpec.ofChange alarmExactWrong)

/-- 'hourglasslaw11.AlarmPieces': WHATEVER THE INPUT: true; the input reads as it did. -/
def alarmPiecesSpec : ChangeSpec := { name := "alarmPieces", fn := fun _ => fun
  | [d1, d2, d3, d4] => { results := [.lit (.bool true)], args := [d1, d2, d3, d4] }
  | _ => none }
def alarmPiecesRow : OpenClaim := { program := "ytmkcckkjkfmheaa", sum := "0d944dee3e63769928a0afc565b31bc91f4a5dc6fbb2eec7b9e82f10becedc00", func := "hourglass/hourglasslaw11.AlarmPieces", spec := "alarmPieces", unfollowed := true, recurses := true, plainKeys := false, apart := false }
def AlarmPiecesSaid : Prop := alarmPiecesRow.holds Try.pinned (OpenSpec.ofChange alarmPiecesSpec)

/-- ITS FALSE NEIGHBOUR: 'it returns false'. Refute it at one input. -/
def alarmPiecesWrong : ChangeSpec := { name := "alarmPieces", fn := fun _ => fun
  | [d1, d2, d3, d4] => { results := [.lit (.bool false)], args := [d1, d2, d3, d4] }
  | _ => none }
def AlarmPiecesWrongFalsely : Prop := alarmPiecesRow.holds Try.pinned (OpenSpec.ofChange alarmPiecesWrong)

/-- 'hourglasslaw11.AlarmApart': WHATEVER THE INPUT: true; the input reads as it did. -/
def alarmApartSpec : ChangeSpec := { name := "alarmApart", fn := fun _ => fun
  | [d1, d2, d3, d4, d5, d6] => { results := [.lit (.bool true)], args := [d1, d2, d3, d4, d5, d6] }
  | _ => none }
def alarmApartRow : OpenClaim := { program := "ytmkcckkjkfmheaa", sum := "0d944dee3e63769928a0afc565b31bc91f4a5dc6fbb2eec7b9e82f10becedc00", func := "hourglass/hourglasslaw11.AlarmApart", spec := "alarmApart", unfollowed := true, recurses := true, plainKeys := false, apart := false }
def AlarmApartSaid : Prop := alarmApartRow.holds Try.pinned (OpenSpec.ofChange alarmApartSpec)

/-- ITS FALSE NEIGHBOUR: 'it returns false'. Refute it at one input. -/
def alarmApartWrong : ChangeSpec := { name := "alarmApart", fn := fun _ => fun
  | [d1, d2, d3, d4, d5, d6] => { results := [.lit (.bool false)], args := [d1, d2, d3, d4, d5, d6] }
  | _ => none }
def AlarmApartWrongFalsely : Prop := alarmApartRow.holds Try.pinned (OpenSpec.ofChange alarmApartWrong)

/-- 'hourglasslaw11.AlarmPlays': WHATEVER THE INPUT: true; the input reads as it did. -/
def alarmPlaysSpec : ChangeSpec := { name := "alarmPlays", fn := fun _ => fun
  | [d1, d2] => { results := [.lit (.bool true)], args := [d1, d2] }
  | _ => none }
def alarmPlaysRow : OpenClaim := { program := "ytmkcckkjkfmheaa", sum := "0d944dee3e63769928a0afc565b31bc91f4a5dc6fbb2eec7b9e82f10becedc00", func := "hourglass/hourglasslaw11.AlarmPlays", spec := "alarmPlays", unfollowed := true, recurses := true, plainKeys := false, apart := false }
def AlarmPlaysSaid : Prop := alarmPlaysRow.holds Try.pinned (OpenSpec.ofChange alarmPlaysSpec)

/-- ITS FALSE NEIGHBOUR: 'it returns false'. Refute it at one input. -/
def alarmPlaysWrong : ChangeSpec := { name := "alarmPlays", fn := fun _ => fun
  | [d1, d2] => { results := [.lit (.bool false)], args := [d1, d2] }
  | _ => none }
def AlarmPlaysWrongFalsely : Prop := alarmPlaysRow.holds Try.pinned (OpenSpec.ofChange alarmPlaysWrong)

/-- 'hourglasslaw11.AlarmNone': WHATEVER THE INPUT: true; the input reads as it did. -/
def alarmNoneSpec : ChangeSpec := { name := "alarmNone", fn := fun _ => fun
  | [d1, d2] => { results := [.lit (.bool true)], args := [d1, d2] }
  | _ => none }
def alarmNoneRow : OpenClaim := { program := "ytmkcckkjkfmheaa", sum := "0d944dee3e63769928a0afc565b31bc91f4a5dc6fbb2eec7b9e82f10becedc00", func := "hourglass/hourglasslaw11.AlarmNone", spec := "alarmNone", unfollowed := true, recurses := true, plainKeys := false, apart := false }
def AlarmNoneSaid : Prop := alarmNoneRow.holds Try.pinned (OpenSpec.ofChange alarmNoneSpec)

/-- ITS FALSE NEIGHBOUR: 'it returns false'. Refute it at one input. -/
def alarmNoneWrong : ChangeSpec := { name := "alarmNone", fn := fun _ => fun
  | [d1, d2] => { results := [.lit (.bool false)], args := [d1, d2] }
  | _ => none }
def AlarmNoneWrongFalsely : Prop := alarmNoneRow.holds Try.pinned (OpenSpec.ofChange alarmNoneWrong)

/- THE SECOND FORM. 'bulk': how many values and letters a reading holds, each counted each time it is reached (what is shared counts as often as it is met; a slice's spare places count too). A statement '..UptoSaid' is the law's where the arguments, and the package variables that the reading takes, are together of bulk at most 1048576: NARROWER than '..Said'. Prove '..Said' where nothing that the law and all that it calls make is longer than what came in: it says more and counts as full. Else prove '..UptoSaid'. A law counts once. -/
mutual
def uptoBulk {H : Type} : DataW H → Nat
  | .lit (.string bytes) => bytes.length + 1
  | .lit _ => 1
  | .nil => 1
  | .ptr d => uptoBulk d + 1
  | .slice elems spare => uptoBulkAll elems + uptoBulkAll spare + 1
  | .agg parts => uptoBulkAll parts + 1
  | .iface _ d => uptoBulk d + 1
  | .map entries => uptoBulkEntries entries + 1
  | .held _ => 1
def uptoBulkAll {H : Type} : List (DataW H) → Nat
  | [] => 0
  | d :: r => uptoBulk d + uptoBulkAll r
def uptoBulkEntries {H : Type} : List (Lit × DataW H) → Nat
  | [] => 0
  | x :: r => uptoBulkEntry x + uptoBulkEntries r
def uptoBulkEntry {H : Type} : Lit × DataW H → Nat
  | (.string bytes, d) => bytes.length + uptoBulk d + 1
  | (_, d) => uptoBulk d + 1
 end
def uptoSmall : (H : Type) → List (DataW H) → Bool := fun _ ds => decide (uptoBulkAll ds ≤ 1048576)
def OpenSpec.upto (s : _root_.Go.ChangeSpec) : _root_.Go.OpenSpec := { _root_.Go.OpenSpec.ofChange s with cond := some uptoSmall }

/-- 'hourglasslaw11.AlarmExact', WHERE WHAT IT READS IS OF BULK AT MOST 1048576: true; the input reads as it did. -/
def alarmExactUptoRow : OpenClaim := { program := "ytmkcckkjkfmheaa", sum := "0d944dee3e63769928a0afc565b31bc91f4a5dc6fbb2eec7b9e82f10becedc00", func := "hourglass/hourglasslaw11.AlarmExact", spec := "alarmExact", unfollowed := true, recurses := true, plainKeys := false, apart := false, narrowed := true }
def AlarmExactUptoSaid : Prop := alarmExactUptoRow.holds Try.pinned (OpenSpec.upto alarmExactSpec)

/-- 'hourglasslaw11.AlarmPieces', WHERE WHAT IT READS IS OF BULK AT MOST 1048576: true; the input reads as it did. -/
def alarmPiecesUptoRow : OpenClaim := { program := "ytmkcckkjkfmheaa", sum := "0d944dee3e63769928a0afc565b31bc91f4a5dc6fbb2eec7b9e82f10becedc00", func := "hourglass/hourglasslaw11.AlarmPieces", spec := "alarmPieces", unfollowed := true, recurses := true, plainKeys := false, apart := false, narrowed := true }
def AlarmPiecesUptoSaid : Prop := alarmPiecesUptoRow.holds Try.pinned (OpenSpec.upto alarmPiecesSpec)

/-- 'hourglasslaw11.AlarmApart', WHERE WHAT IT READS IS OF BULK AT MOST 1048576: true; the input reads as it did. -/
def alarmApartUptoRow : OpenClaim := { program := "ytmkcckkjkfmheaa", sum := "0d944dee3e63769928a0afc565b31bc91f4a5dc6fbb2eec7b9e82f10becedc00", func := "hourglass/hourglasslaw11.AlarmApart", spec := "alarmApart", unfollowed := true, recurses := true, plainKeys := false, apart := false, narrowed := true }
def AlarmApartUptoSaid : Prop := alarmApartUptoRow.holds Try.pinned (OpenSpec.upto alarmApartSpec)

/-- 'hourglasslaw11.AlarmPlays', WHERE WHAT IT READS IS OF BULK AT MOST 1048576: true; the input reads as it did. -/
def alarmPlaysUptoRow : OpenClaim := { program := "ytmkcckkjkfmheaa", sum := "0d944dee3e63769928a0afc565b31bc91f4a5dc6fbb2eec7b9e82f10becedc00", func := "hourglass/hourglasslaw11.AlarmPlays", spec := "alarmPlays", unfollowed := true, recurses := true, plainKeys := false, apart := false, narrowed := true }
def AlarmPlaysUptoSaid : Prop := alarmPlaysUptoRow.holds Try.pinned (OpenSpec.upto alarmPlaysSpec)

/-- 'hourglasslaw11.AlarmNone', WHERE WHAT IT READS IS OF BULK AT MOST 1048576: true; the input reads as it did. -/
def alarmNoneUptoRow : OpenClaim := { program := "ytmkcckkjkfmheaa", sum := "0d944dee3e63769928a0afc565b31bc91f4a5dc6fbb2eec7b9e82f10becedc00", func := "hourglass/hourglasslaw11.AlarmNone", spec := "alarmNone", unfollowed := true, recurses := true, plainKeys := false, apart := false, narrowed := true }
def AlarmNoneUptoSaid : Prop := alarmNoneUptoRow.holds Try.pinned (OpenSpec.upto alarmNoneSpec)

end Rows
end Go.Proofs.Ytmkcckkjkfmheaa

/-
  No cell of these rows narrows 'for every input' (looked for: loops, veiled, ifaces, maps, wideKeys, modest, calm, conditions, laid).
  DERIVED. THE GIVEN ROWS OF THIS SEAT. 12 by the template 'for every input the law returns true; each argument reads behind the call as it read before'; 0 by the template 'total and deterministic' (their statements: YthleomamdaijdaaTotals.lean).
  GIVEN WITH THE SEED: the statements are not yours to turn. If you find one false, say at which input.
  Laid BY PROGRAM, IN A SANDBOX (cutbox-rows.mjs): the forced cells as the released guide's own fill.sh prints them over the translation 28fb8a7b5711ebc1… (all of the seat's roots in one cut). By AI agents, Wed Nov 11 2026. No macro, syntax, notation, axiom, sorry.
-/
import Derived.Test.YthleomamdaijdaaChecked
import GoSem.Claim
import GoSem.ClaimJoined
import GoSem.ClaimMapViews
import Derived.JoinedTies
import Derived.KernelRfl
namespace Go.Proofs.Ythleomamdaijdaa
/- THE CELL 'sum', in the pinned program and in every row, IS THE sha256 OF THE DUMP (.gsa) THAT YthleomamdaijdaaProg.lean LOADS. Nothing in Lean hashes anything: it is a label: what it is worth is what the hold of that sum in a sandbox is worth. -/
noncomputable def Try.pinned : Pinned := { name := "ythleomamdaijdaa", sum := "28fb8a7b5711ebc1c732d30452a433fe0e022a63e30b518f9d7a3ce48bff1088", checked := Try.checked }
namespace Rows
def none {H : Type} : Left H := { results := [], args := [] }

/-- 'hourglasslaw15.LeaseTells': WHATEVER THE INPUT: true; the input reads as it did. -/
def leaseTellsSpec : ChangeSpec := { name := "leaseTells", fn := fun _ => fun
  | [d1, d2, d3] => { results := [.lit (.bool true)], args := [d1, d2, d3] }
  | _ => none }
def leaseTellsRow : OpenClaim := { program := "ythleomamdaijdaa", sum := "28fb8a7b5711ebc1c732d30452a433fe0e022a63e30b518f9d7a3ce48bff1088", func := "hourglass/hourglasslaw15.LeaseTells", spec := "leaseTells", apart := false }
def LeaseTellsSaid : Prop := leaseTellsRow.holds Try.pinned (OpenSpec.ofChange leaseTellsSpec)

/-- ITS FALSE NEIGHBOUR: 'it returns false'. Refute it at one input. -/
def leaseTellsWrong : ChangeSpec := { name := "leaseTells", fn := fun _ => fun
  | [d1, d2, d3] => { results := [.lit (.bool false)], args := [d1, d2, d3] }
  | _ => none }
def LeaseTellsWrongFalsely : Prop := leaseTellsRow.holds Try.pinned (OpenSpec.ofChange leaseTellsWrong)

/-- 'hourglasslaw15.LeaseEnds': WHATEVER THE INPUT: true; the input reads as it did. -/
def leaseEndsSpec : ChangeSpec := { name := "leaseEnds", fn := fun _ => fun
  | [d1, d2, d3, d4, d5] => { results := [.lit (.bool true)], args := [d1, d2, d3, d4, d5] }
  | _ => none }
def leaseEndsRow : OpenClaim := { program := "ythleomamdaijdaa", sum := "28fb8a7b5711ebc1c732d30452a433fe0e022a63e30b518f9d7a3ce48bff1088", func := "hourglass/hourglasslaw15.LeaseEnds", spec := "leaseEnds", apart := false }
def LeaseEndsSaid : Prop := leaseEndsRow.holds Try.pinned (OpenSpec.ofChange leaseEndsSpec)

/-- ITS FALSE NEIGHBOUR: 'it returns false'. Refute it at one input. -/
def leaseEndsWrong : ChangeSpec := { name := "leaseEnds", fn := fun _ => fun
  | [d1, d2, d3, d4, d5] => { results := [.lit (.bool false)], args := [d1, d2, d3, d4, d5] }
  | _ => none }
def LeaseEndsWrongFalsely : Prop := leaseEndsRow.holds Try.pinned (OpenSpec.ofChange leaseEndsWrong)

/-- 'hourglasslaw19.ThrottleTells': WHATEVER THE INPUT: true; the input reads as it did. -/
def throttleTellsSpec : ChangeSpec := { name := "throttleTells", fn := fun _ => fun
  | [d1, d2] => { results := [.lit (.bool true)], args := [d1, d2] }
  | _ => none }
def throttleTellsRow : OpenClaim := { program := "ythleomamdaijdaa", sum := "28fb8a7b5711ebc1c732d30452a433fe0e022a63e30b518f9d7a3ce48bff1088", func := "hourglass/hourglasslaw19.ThrottleTells", spec := "throttleTells", apart := false }
def ThrottleTellsSaid : Prop := throttleTellsRow.holds Try.pinned (OpenSpec.ofChange throttleTellsSpec)

/-- ITS FALSE NEIGHBOUR: 'it returns false'. Refute it at one input. -/
def throttleTellsWrong : ChangeSpec := { name := "throttleTells", fn := fun _ => fun
  | [d1, d2] => { results := [.lit (.bool false)], args := [d1, d2] }
  | _ => none }
def ThrottleTellsWrongFalsely : Prop := throttleTellsRow.holds Try.pinned (OpenSpec.ofChange throttleTellsWrong)

/-- 'hourglasslaw19.ThrottleFails': WHATEVER THE INPUT: true; the input reads as it did. -/
def throttleFailsSpec : ChangeSpec := { name := "throttleFails", fn := fun _ => fun
  | [d1, d2] => { results := [.lit (.bool true)], args := [d1, d2] }
  | _ => none }
def throttleFailsRow : OpenClaim := { program := "ythleomamdaijdaa", sum := "28fb8a7b5711ebc1c732d30452a433fe0e022a63e30b518f9d7a3ce48bff1088", func := "hourglass/hourglasslaw19.ThrottleFails", spec := "throttleFails", apart := false }
def ThrottleFailsSaid : Prop := throttleFailsRow.holds Try.pinned (OpenSpec.ofChange throttleFailsSpec)

/-- ITS FALSE NEIGHBOUR: 'it returns false'. Refute it at one input. -/
def throttleFailsWrong : ChangeSpec := { name := "throttleFails", fn := fun _ => fun
  | [d1, d2] => { results := [.lit (.bool false)], args := [d1, d2] }
  | _ => none }
def ThrottleFailsWrongFalsely : Prop := throttleFailsRow.holds Try.pinned (OpenSpec.ofChange throttleFailsWrong)

/-- 'hourglasslaw19.ThrottlePlays': WHATEVER THE INPUT: true; the input reads as it did. -/
def throttlePlaysSpec : ChangeSpec := { name := "throttlePlays", fn := fun _ => fun
  | [d1, d2] => { results := [.lit (.bool true)], args := [d1, d2] }
  | _ => none }
def throttlePlaysRow : OpenClaim := { program := "ythleomamdaijdaa", sum := "28fb8a7b5711ebc1c732d30452a433fe0e022a63e30b518f9d7a3ce48bff1088", func := "hourglass/hourglasslaw19.ThrottlePlays", spec := "throttlePlays", apart := false }
def ThrottlePlaysSaid : Prop := throttlePlaysRow.holds Try.pinned (OpenSpec.ofChange throttlePlaysSpec)

/-- ITS FALSE NEIGHBOUR: 'it returns false'. Refute it at one input. -/
def throttlePlaysWrong : ChangeSpec := { name := "throttlePlays", fn := fun _ => fun
  | [d1, d2] => { results := [.lit (.bool false)], args := [d1, d2] }
  | _ => none }
def ThrottlePlaysWrongFalsely : Prop := throttlePlaysRow.holds Try.pinned (OpenSpec.ofChange throttlePlaysWrong)

/-- 'hourglasslaw19.ThrottlePays': WHATEVER THE INPUT: true; the input reads as it did. -/
def throttlePaysSpec : ChangeSpec := { name := "throttlePays", fn := fun _ => fun
  | [d1, d2] => { results := [.lit (.bool true)], args := [d1, d2] }
  | _ => none }
def throttlePaysRow : OpenClaim := { program := "ythleomamdaijdaa", sum := "28fb8a7b5711ebc1c732d30452a433fe0e022a63e30b518f9d7a3ce48bff1088", func := "hourglass/hourglasslaw19.ThrottlePays", spec := "throttlePays", apart := false }
def ThrottlePaysSaid : Prop := throttlePaysRow.holds Try.pinned (OpenSpec.ofChange throttlePaysSpec)

/-- ITS FALSE NEIGHBOUR: 'it returns false'. Refute it at one input. -/
def throttlePaysWrong : ChangeSpec := { name := "throttlePays", fn := fun _ => fun
  | [d1, d2] => { results := [.lit (.bool false)], args := [d1, d2] }
  | _ => none }
def ThrottlePaysWrongFalsely : Prop := throttlePaysRow.holds Try.pinned (OpenSpec.ofChange throttlePaysWrong)

/-- 'hourglasslaw15.LeasePasses': WHATEVER THE INPUT: true; the input reads as it did. -/
def leasePassesSpec : ChangeSpec := { name := "leasePasses", fn := fun _ => fun
  | [d1, d2, d3] => { results := [.lit (.bool true)], args := [d1, d2, d3] }
  | _ => none }
def leasePassesRow : OpenClaim := { program := "ythleomamdaijdaa", sum := "28fb8a7b5711ebc1c732d30452a433fe0e022a63e30b518f9d7a3ce48bff1088", func := "hourglass/hourglasslaw15.LeasePasses", spec := "leasePasses", apart := false }
def LeasePassesSaid : Prop := leasePassesRow.holds Try.pinned (OpenSpec.ofChange leasePassesSpec)

/-- ITS FALSE NEIGHBOUR: 'it returns false'. Refute it at one input. -/
def leasePassesWrong : ChangeSpec := { name := "leasePasses", fn := fun _ => fun
  | [d1, d2, d3] => { results := [.lit (.bool false)], args := [d1, d2, d3] }
  | _ => none }
def LeasePassesWrongFalsely : Prop := leasePassesRow.holds Try.pinned (OpenSpec.ofChange leasePassesWrong)

/-- 'hourglasslaw43.QuotaPlays': WHATEVER THE INPUT: true; the input reads as it did. -/
def quotaPlaysSpec : ChangeSpec := { name := "quotaPlays", fn := fun _ => fun
  | [d1, d2, d3] => { results := [.lit (.bool true)], args := [d1, d2, d3] }
  | _ => none }
def quotaPlaysRow : OpenClaim := { program := "ythleomamdaijdaa", sum := "28fb8a7b5711ebc1c732d30452a433fe0e022a63e30b518f9d7a3ce48bff1088", func := "hourglass/hourglasslaw43.QuotaPlays", spec := "quotaPlays", apart := false }
def QuotaPlaysSaid : Prop := quotaPlaysRow.holds Try.pinned (OpenSpec.ofChange quotaPlaysSpec)

/-- ITS FALSE NEIGHBOUR: 'it returns false'. Refute it at one input. -/
def quotaPlaysWrong : ChangeSpec := { name := "quotaPlays", fn := fun _ => fun
  | [d1, d2, d3] => { results := [.lit (.bool false)], args := [d1, d2, d3] }
  | _ => none }
def QuotaPlaysWrongFalsely : Prop := quotaPlaysRow.holds Try.pinned (OpenSpec.ofChange quotaPlaysWrong)

/-- 'hourglasslaw43.QuotaBounds': WHATEVER THE INPUT: true; the input reads as it did. -/
def quotaBoundsSpec : ChangeSpec := { name := "quotaBounds", fn := fun _ => fun
  | [d1, d2, d3] => { results := [.lit (.bool true)], args := [d1, d2, d3] }
  | _ => none }
def quotaBoundsRow : OpenClaim := { program := "ythleomamdaijdaa", sum := "28fb8a7b5711ebc1c732d30452a433fe0e022a63e30b518f9d7a3ce48bff1088", func := "hourglass/hourglasslaw43.QuotaBounds", spec := "quotaBounds", apart := false }
def QuotaBoundsSaid : Prop := quotaBoundsRow.holds Try.pinned (OpenSpec.ofChange quotaBoundsSpec)

/-- ITS FALSE NEIGHBOUR: 'it returns false'. Refute it at one input. -/
def quotaBoundsWrong : ChangeSpec := { name := "quotaBounds", fn := fun _ => fun
  | [d1, d2, d3] => { results := [.lit (.bool false)], args := [d1, d2, d3] }
  | _ => none }
def QuotaBoundsWrongFalsely : Prop := quotaBoundsRow.holds Try.pinned (OpenSpec.ofChange quotaBoundsWrong)

/-- 'hourglasslaw43.QuotaWaits': WHATEVER THE INPUT: true; the input reads as it did. -/
def quotaWaitsSpec : ChangeSpec := { name := "quotaWaits", fn := fun _ => fun
  | [d1, d2, d3, d4, d5] => { results := [.lit (.bool true)], args := [d1, d2, d3, d4, d5] }
  | _ => none }
def quotaWaitsRow : OpenClaim := { program := "ythleomamdaijdaa", sum := "28fb8a7b5711ebc1c732d30452a433fe0e022a63e30b518f9d7a3ce48bff1088", func := "hourglass/hourglasslaw43.QuotaWaits", spec := "quotaWaits", apart := false }
def QuotaWaitsSaid : Prop := quotaWaitsRow.holds Try.pinned (OpenSpec.ofChange quotaWaitsSpec)

/-- ITS FALSE NEIGHBOUR: 'it returns false'. Refute it at one input. -/
def quotaWaitsWrong : ChangeSpec := { name := "quotaWaits", fn := fun _ => fun
  | [d1, d2, d3, d4, d5] => { results := [.lit (.bool false)], args := [d1, d2, d3, d4, d5] }
  | _ => none }
def QuotaWaitsWrongFalsely : Prop := quotaWaitsRow.holds Try.pinned (OpenSpec.ofChange quotaWaitsWrong)

/-- 'hourglasslaw09.SlotHolds': WHATEVER THE INPUT: true; the input reads as it did. -/
def slotHoldsSpec : ChangeSpec := { name := "slotHolds", fn := fun _ => fun
  | [d1, d2] => { results := [.lit (.bool true)], args := [d1, d2] }
  | _ => none }
def slotHoldsRow : OpenClaim := { program := "ythleomamdaijdaa", sum := "28fb8a7b5711ebc1c732d30452a433fe0e022a63e30b518f9d7a3ce48bff1088", func := "hourglass/hourglasslaw09.SlotHolds", spec := "slotHolds", apart := false }
def SlotHoldsSaid : Prop := slotHoldsRow.holds Try.pinned (OpenSpec.ofChange slotHoldsSpec)

/-- ITS FALSE NEIGHBOUR: 'it returns false'. Refute it at one input. -/
def slotHoldsWrong : ChangeSpec := { name := "slotHolds", fn := fun _ => fun
  | [d1, d2] => { results := [.lit (.bool false)], args := [d1, d2] }
  | _ => none }
def SlotHoldsWrongFalsely : Prop := slotHoldsRow.holds Try.pinned (OpenSpec.ofChange slotHoldsWrong)

/-- 'hourglasslaw09.SlotFalls': WHATEVER THE INPUT: true; the input reads as it did. -/
def slotFallsSpec : ChangeSpec := { name := "slotFalls", fn := fun _ => fun
  | [d1, d2, d3] => { results := [.lit (.bool true)], args := [d1, d2, d3] }
  | _ => none }
def slotFallsRow : OpenClaim := { program := "ythleomamdaijdaa", sum := "28fb8a7b5711ebc1c732d30452a433fe0e022a63e30b518f9d7a3ce48bff1088", func := "hourglass/hourglasslaw09.SlotFalls", spec := "slotFalls", apart := false }
def SlotFallsSaid : Prop := slotFallsRow.holds Try.pinned (OpenSpec.ofChange slotFallsSpec)

/-- ITS FALSE NEIGHBOUR: 'it returns false'. Refute it at one input. -/
def slotFallsWrong : ChangeSpec := { name := "slotFalls", fn := fun _ => fun
  | [d1, d2, d3] => { results := [.lit (.bool false)], args := [d1, d2, d3] }
  | _ => none }
def SlotFallsWrongFalsely : Prop := slotFallsRow.holds Try.pinned (OpenSpec.ofChange slotFallsWrong)

/- THE SECOND FORM. 'bulk': how many values and letters a reading holds, each counted each time it is reached (what is shared counts as often as it is met; a slice's spare places count too). A statement '..UptoSaid' is the law's where the arguments, and the package variables that the reading takes, are together of bulk at most 1048576: NARROWER than '..Said'. Prove '..Said' where nothing that the law and all that it calls make is longer than what came in: it says more and counts as full. Else prove '..UptoSaid'. A law counts once. -/
mutual
def uptoBulk {H : Type} : DataW H → Nat
  | .lit (.string bytes) => bytes.length + 1
  | .lit _ => 1
  | .nil => 1
  | .ptr d => uptoBulk d + 1
  | .slice elems spare => uptoBulkAll elems + uptoBulkAll spare + 1
  | .agg parts => uptoBulkAll parts + 1
  | .iface _ d => uptoBulk d + 1
  | .map entries => uptoBulkEntries entries + 1
  | .held _ => 1
def uptoBulkAll {H : Type} : List (DataW H) → Nat
  | [] => 0
  | d :: r => uptoBulk d + uptoBulkAll r
def uptoBulkEntries {H : Type} : List (Lit × DataW H) → Nat
  | [] => 0
  | x :: r => uptoBulkEntry x + uptoBulkEntries r
def uptoBulkEntry {H : Type} : Lit × DataW H → Nat
  | (.string bytes, d) => bytes.length + uptoBulk d + 1
  | (_, d) => uptoBulk d + 1
 end
def uptoSmall : (H : Type) → List (DataW H) → Bool := fun _ ds => decide (uptoBulkAll ds ≤ 1048576)
def OpenSpec.upto (s : _root_.Go.ChangeSpec) : _root_.Go.OpenSpec := { _root_.Go.OpenSpec.ofChange s with cond := some uptoSmall }

/-- 'hourglasslaw15.LeaseTells', WHERE WHAT IT READS IS OF BULK AT MOST 1048576: true; the input reads as it did. -/
def leaseTellsUptoRow : OpenClaim := { program := "ythleomamdaijdaa", sum := "28fb8a7b5711ebc1c732d30452a433fe0e022a63e30b518f9d7a3ce48bff1088", func := "hourglass/hourglasslaw15.LeaseTells", spec := "leaseTells", apart := false, narrowed := true }
def LeaseTellsUptoSaid : Prop := leaseTellsUptoRow.holds Try.pinned (OpenSpec.upto leaseTellsSpec)

/-- 'hourglasslaw15.LeaseEnds', WHERE WHAT IT READS IS OF BULK AT MOST 1048576: true; the input reads as it did. -/
def leaseEndsUptoRow : OpenClaim := { program := "ythleomamdaijdaa", sum := "28fb8a7b5711ebc1c732d30452a433fe0e022a63e30b518f9d7a3ce48bff1088", func := "hourglass/hourglasslaw15.LeaseEnds", spec := "leaseEnds", apart := false, narrowed := true }
def LeaseEndsUptoSaid : Prop := leaseEndsUptoRow.holds Try.pinned (OpenSpec.upto leaseEndsSpec)

/-- 'hourglasslaw19.ThrottleTells', WHERE WHAT IT READS IS OF BULK AT MOST 1048576: true; the input reads as it did. -/
def throttleTellsUptoRow : OpenClaim := { program := "ythleomamdaijdaa", sum := "28fb8a7b5711ebc1c732d30452a433fe0e022a63e30b518f9d7a3ce48bff1088", func := "hourglass/hourglasslaw19.ThrottleTells", spec := "throttleTells", apart := false, narrowed := true }
def ThrottleTellsUptoSaid : Prop := throttleTellsUptoRow.holds Try.pinned (OpenSpec.upto throttleTellsSpec)

/-- 'hourglasslaw19.ThrottleFails', WHERE WHAT IT READS IS OF BULK AT MOST 1048576: true; the input reads as it did. -/
def throttleFailsUptoRow : OpenClaim := { program := "ythleomamdaijdaa", sum := "28fb8a7b5711ebc1c732d30452a433fe0e022a63e30b518f9d7a3ce48bff1088", func := "hourglass/hourglasslaw19.ThrottleFails", spec := "throttleFails", apart := false, narrowed := true }
def ThrottleFailsUptoSaid : Prop := throttleFailsUptoRow.holds Try.pinned (OpenSpec.upto throttleFailsSpec)

/-- 'hourglasslaw19.ThrottlePlays', WHERE WHAT IT READS IS OF BULK AT MOST 1048576: true; the input reads as it did. -/
def throttlePlaysUptoRow : OpenClaim := { program := "ythleomamdaijdaa", sum := "28fb8a7b5711ebc1c732d30452a433fe0e022a63e30b518f9d7a3ce48bff1088", func := "hourglass/hourglasslaw19.ThrottlePlays", spec := "throttlePlays", apart := false, narrowed := true }
def ThrottlePlaysUptoSaid : Prop := throttlePlaysUptoRow.holds Try.pinned (OpenSpec.upto throttlePlaysSpec)

/-- 'hourglasslaw19.ThrottlePays', WHERE WHAT IT READS IS OF BULK AT MOST 1048576: true; the input reads as it did. -/
def throttlePaysUptoRow : OpenClaim := { program := "ythleomamdaijdaa", sum := "28fb8a7b5711ebc1c732d30452a433fe0e022a63e30b518f9d7a3ce48bff1088", func := "hourglass/hourglasslaw19.ThrottlePays", spec := "throttlePays", apart := false, narrowed := true }
def ThrottlePaysUptoSaid : Prop := throttlePaysUptoRow.holds Try.pinned (OpenSpec.upto throttlePaysSpec)

/-- 'hourglasslaw15.LeasePasses', WHERE WHAT IT READS IS OF BULK AT MOST 1048576: true; the input reads as it did. -/
def leasePassesUptoRow : OpenClaim := { program := "ythleomamdaijdaa", sum := "28fb8a7b5711ebc1c732d30452a433fe0e022a63e30b518f9d7a3ce48bff1088", func := "hourglass/hourglasslaw15.LeasePasses", spec := "leasePasses", apart := false, narrowed := true }
def LeasePassesUptoSaid : Prop := leasePassesUptoRow.holds Try.pinned (OpenSpec.upto leasePassesSpec)

/-- 'hourglasslaw43.QuotaPlays', WHERE WHAT IT READS IS OF BULK AT MOST 1048576: true; the input reads as it did. -/
def quotaPlaysUptoRow : OpenClaim := { program := "ythleomamdaijdaa", sum := "28fb8a7b5711ebc1c732d30452a433fe0e022a63e30b518f9d7a3ce48bff1088", func := "hourglass/hourglasslaw43.QuotaPlays", spec := "quotaPlays", apart := false, narrowed := true }
def QuotaPlaysUptoSaid : Prop := quotaPlaysUptoRow.holds Try.pinned (OpenSpec.upto quotaPlaysSpec)

/-- 'hourglasslaw43.QuotaBounds', WHERE WHAT IT READS IS OF BULK AT MOST 1048576: true; the input reads as it did. -/
def quotaBoundsUptoRow : OpenClaim := { program := "ythleomamdaijdaa", sum := "28fb8a7b5711ebc1c732d30452a433fe0e022a63e30b518f9d7a3ce48bff1088", func := "hourglass/hourglasslaw43.QuotaBounds", spec := "quotaBounds", apart := false, narrowed := true }
def QuotaBoundsUptoSaid : Prop := quotaBoundsUptoRow.holds Try.pinned (OpenSpec.upto quotaBoundsSpec)

/-- 'hourglasslaw43.QuotaWaits', WHERE WHAT IT READS IS OF BULK AT MOST 1048576: true; the input reads as it did. -/
def quotaWaitsUptoRow : OpenClaim := { program := "ythleomamdaijdaa", sum := "28fb8a7b5711ebc1c732d30452a433fe0e022a63e30b518f9d7a3ce48bff1088", func := "hourglass/hourglasslaw43.QuotaWaits", spec := "quotaWaits", apart := false, narrowed := true }
def QuotaWaitsUptoSaid : Prop := quotaWaitsUptoRow.holds Try.pinned (OpenSpec.upto quotaWaitsSpec)

/-- 'hourglasslaw09.SlotHolds', WHERE WHAT IT READS IS OF BULK AT MOST 1048576: true; the input reads as it did. -/
def slotHoldsUptoRow : OpenClaim := { program := "ythleomamdaijdaa", sum := "28fb8a7b5711ebc1c732d30452a433fe0e022a63e30b518f9d7a3ce48bff1088", func := "hourglass/hourglasslaw09.SlotHolds", spec := "slotHolds", apart := false, narrowed := true }
def SlotHoldsUptoSaid : Prop := slotHoldsUptoRow.holds Try.pinned (OpenSpec.upto slotHoldsSpec)

/-- 'hourglasslaw09.SlotFalls', WHERE WHAT IT READS IS OF BULK AT MOST 1048576: true; the input reads as it did. -/
def slotFallsUptoRow : OpenClaim := { program := "ythleomamdaijdaa", sum := "28fb8a7b5711ebc1c732d30452a433fe0e022a63e30b518f9d7a3ce48bff1088", func := "hourglass/hourglasslaw09.SlotFalls", spec := "slotFalls", apart := false, narrowed := true }
def SlotFallsUptoSaid : Prop := slotFallsUptoRow.holds Try.pinned (OpenSpec.upto slotFallsSpec)

end Rows
end Go.Proofs.Ythleomamdaijdaa

/-
  No cell of these rows narrows 'for every input' (looked for: loops, veiled, ifaces, maps, wideKeys, modest, calm, conditions, laid).
  DERIVED. THE GIVEN ROWS OF THIS SEAT. 6 by the template 'for every input the law returns true; each argument reads behind the call as it read before'; 0 by the template 'total and deterministic' (their statements: YtfnbckgpldkgmaaTotals.lean).
  GIVEN WITH THE SEED: the statements are not yours to turn. If you find one false, say at which input.
  Laid BY PROGRAM, IN A SANDBOX (cutbox-rows.mjs): the forced cells as the released guide's own fill.sh prints them over the translation 96a16905783893f0… (all of the seat's roots in one cut). By AI agents, Wed Nov 11 2026. No macro, syntax, notation, axiom, sorry.
-/
import Derived.Test.YtfnbckgpldkgmaaChecked
import GoSem.Claim
import GoSem.ClaimJoined
import GoSem.ClaimMapViews
import Derived.JoinedTies
import Derived.KernelRfl
namespace Go.Proofs.Ytfnbckgpldkgmaa
/- THE CELL 'sum', in the pinned program and in every row, IS THE sha256 OF THE DUMP (.gsa) THAT YtfnbckgpldkgmaaProg.lean LOADS. Nothing in Lean hashes anything: it is a label: what it is worth is what the hold of that sum in a sandbox is worth. -/
noncomputable def Try.pinned : Pinned := { name := "ytfnbckgpldkgmaa", sum := "96a16905783893f0584ac9180afbbcbc629ff9f120c31be282525b5601de2cdc", checked := Try.checked }
namespace Rows
def none {H : Type} : Left H := { results := [], args := [] }

/-- 'tidelinelaw04.RowPuts': WHATEVER THE INPUT: true; the input reads as it did. -/
def rowPutsSpec : ChangeSpec := { name := "rowPuts", fn := fun _ => fun
  | [d1, d2] => { results := [.lit (.bool true)], args := [d1, d2] }
  | _ => none }
def rowPutsRow : OpenClaim := { program := "ytfnbckgpldkgmaa", sum := "96a16905783893f0584ac9180afbbcbc629ff9f120c31be282525b5601de2cdc", func := "tideline/tidelinelaw04.RowPuts", spec := "rowPuts", unfollowed := true, recurses := true, apart := false }
def RowPutsSaid : Prop := rowPutsRow.holds Try.pinned (OpenSpec.ofChange rowPutsSpec)

/-- ITS FALSE NEIGHBOUR: 'it returns false'. Refute it at one input. -/
def rowPutsWrong : ChangeSpec := { name := "rowPuts", fn := fun _ => fun
  | [d1, d2] => { results := [.lit (.bool false)], args := [d1, d2] }
  | _ => none }
def RowPutsWrongFalsely : Prop := rowPutsRow.holds Try.pinned (OpenSpec.ofChange rowPutsWrong)

/-- 'tidelinelaw04.RowGets': WHATEVER THE INPUT: true; the input reads as it did. -/
def rowGetsSpec : ChangeSpec := { name := "rowGets", fn := fun _ => fun
  | [d1, d2] => { results := [.lit (.bool true)], args := [d1, d2] }
  | _ => none }
def rowGetsRow : OpenClaim := { program := "ytfnbckgpldkgmaa", sum := "96a16905783893f0584ac9180afbbcbc629ff9f120c31be282525b5601de2cdc", func := "tideline/tidelinelaw04.RowGets", spec := "rowGets", unfollowed := true, recurses := true, apart := false }
def RowGetsSaid : Prop := rowGetsRow.holds Try.pinned (OpenSpec.ofChange rowGetsSpec)

/-- ITS FALSE NEIGHBOUR: 'it returns false'. Refute it at one input. -/
def rowGetsWrong : ChangeSpec := { name := "rowGets", fn := fun _ => fun
  | [d1, d2] => { results := [.lit (.bool false)], args := [d1, d2] }
  | _ => none }
def RowGetsWrongFalsely : Prop := rowGetsRow.holds Try.pinned (OpenSpec.ofChange rowGetsWrong)

/-- 'tidelinelaw04.RowBack': WHATEVER THE INPUT: true; the input reads as it did. -/
def rowBackSpec : ChangeSpec := { name := "rowBack", fn := fun _ => fun
  | [d1, d2, d3] => { results := [.lit (.bool true)], args := [d1, d2, d3] }
  | _ => none }
def rowBackRow : OpenClaim := { program := "ytfnbckgpldkgmaa", sum := "96a16905783893f0584ac9180afbbcbc629ff9f120c31be282525b5601de2cdc", func := "tideline/tidelinelaw04.RowBack", spec := "rowBack", unfollowed := true, recurses := true, apart := false }
def RowBackSaid : Prop := rowBackRow.holds Try.pinned (OpenSpec.ofChange rowBackSpec)

/-- ITS FALSE NEIGHBOUR: 'it returns false'. Refute it at one input. -/
def rowBackWrong : ChangeSpec := { name := "rowBack", fn := fun _ => fun
  | [d1, d2, d3] => { results := [.lit (.bool false)], args := [d1, d2, d3] }
  | _ => none }
def RowBackWrongFalsely : Prop := rowBackRow.holds Try.pinned (OpenSpec.ofChange rowBackWrong)

/-- 'tidelinelaw04.RowApart': WHATEVER THE INPUT: true; the input reads as it did. -/
def rowApartSpec : ChangeSpec := { name := "rowApart", fn := fun _ => fun
  | [d1, d2, d3, d4, d5] => { results := [.lit (.bool true)], args := [d1, d2, d3, d4, d5] }
  | _ => none }
def rowApartRow : OpenClaim := { program := "ytfnbckgpldkgmaa", sum := "96a16905783893f0584ac9180afbbcbc629ff9f120c31be282525b5601de2cdc", func := "tideline/tidelinelaw04.RowApart", spec := "rowApart", unfollowed := true, recurses := true, apart := false }
def RowApartSaid : Prop := rowApartRow.holds Try.pinned (OpenSpec.ofChange rowApartSpec)

/-- ITS FALSE NEIGHBOUR: 'it returns false'. Refute it at one input. -/
def rowApartWrong : ChangeSpec := { name := "rowApart", fn := fun _ => fun
  | [d1, d2, d3, d4, d5] => { results := [.lit (.bool false)], args := [d1, d2, d3, d4, d5] }
  | _ => none }
def RowApartWrongFalsely : Prop := rowApartRow.holds Try.pinned (OpenSpec.ofChange rowApartWrong)

/-- 'tidelinelaw04.RowSizes': WHATEVER THE INPUT: true; the input reads as it did. -/
def rowSizesSpec : ChangeSpec := { name := "rowSizes", fn := fun _ => fun
  | [d1, d2] => { results := [.lit (.bool true)], args := [d1, d2] }
  | _ => none }
def rowSizesRow : OpenClaim := { program := "ytfnbckgpldkgmaa", sum := "96a16905783893f0584ac9180afbbcbc629ff9f120c31be282525b5601de2cdc", func := "tideline/tidelinelaw04.RowSizes", spec := "rowSizes", unfollowed := true, recurses := true, apart := false }
def RowSizesSaid : Prop := rowSizesRow.holds Try.pinned (OpenSpec.ofChange rowSizesSpec)

/-- ITS FALSE NEIGHBOUR: 'it returns false'. Refute it at one input. -/
def rowSizesWrong : ChangeSpec := { name := "rowSizes", fn := fun _ => fun
  | [d1, d2] => { results := [.lit (.bool false)], args := [d1, d2] }
  | _ => none }
def RowSizesWrongFalsely : Prop := rowSizesRow.holds Try.pinned (OpenSpec.ofChange rowSizesWrong)

/-- 'tidelinelaw04.RowKnown': WHATEVER THE INPUT: true; the input reads as it did. -/
def rowKnownSpec : ChangeSpec := { name := "rowKnown", fn := fun _ => fun
  | [] => { results := [.lit (.bool true)], args := [] }
  | _ => none }
def rowKnownRow : OpenClaim := { program := "ytfnbckgpldkgmaa", sum := "96a16905783893f0584ac9180afbbcbc629ff9f120c31be282525b5601de2cdc", func := "tideline/tidelinelaw04.RowKnown", spec := "rowKnown", unfollowed := true, recurses := true, apart := false }
def RowKnownSaid : Prop := rowKnownRow.holds Try.pinned (OpenSpec.ofChange rowKnownSpec)

/-- ITS FALSE NEIGHBOUR: 'it returns false'. Refute it at one input. -/
def rowKnownWrong : ChangeSpec := { name := "rowKnown", fn := fun _ => fun
  | [] => { results := [.lit (.bool false)], args := [] }
  | _ => none }
def RowKnownWrongFalsely : Prop := rowKnownRow.holds Try.pinned (OpenSpec.ofChange rowKnownWrong)

/- THE SECOND FORM. 'bulk': how many values and letters a reading holds, each counted each time it is reached (what is shared counts as often as it is met; a slice's spare places count too). A statement '..UptoSaid' is the law's where the arguments, and the package variables that the reading takes, are together of bulk at most 1048576: NARROWER than '..Said'. Prove '..Said' where nothing that the law and all that it calls make is longer than what came in: it says more and counts as full. Else prove '..UptoSaid'. A law counts once. -/
mutual
def uptoBulk {H : Type} : DataW H → Nat
  | .lit (.string bytes) => bytes.length + 1
  | .lit _ => 1
  | .nil => 1
  | .ptr d => uptoBulk d + 1
  | .slice elems spare => uptoBulkAll elems + uptoBulkAll spare + 1
  | .agg parts => uptoBulkAll parts + 1
  | .iface _ d => uptoBulk d + 1
  | .map entries => uptoBulkEntries entries + 1
  | .held _ => 1
def uptoBulkAll {H : Type} : List (DataW H) → Nat
  | [] => 0
  | d :: r => uptoBulk d + uptoBulkAll r
def uptoBulkEntries {H : Type} : List (Lit × DataW H) → Nat
  | [] => 0
  | x :: r => uptoBulkEntry x + uptoBulkEntries r
def uptoBulkEntry {H : Type} : Lit × DataW H → Nat
  | (.string bytes, d) => bytes.length + uptoBulk d + 1
  | (_, d) => uptoBulk d + 1
 end
def uptoSmall : (H : Type) → List (DataW H) → Bool := fun _ ds => decide (uptoBulkAll ds ≤ 1048576)
def OpenSpec.upto (s : _root_.Go.ChangeSpec) : _root_.Go.OpenSpec := { _root_.Go.OpenSpec.ofChange s with cond := some uptoSmall }

/-- 'tidelinelaw04.RowPuts', WHERE WHAT IT READS IS OF BULK AT MOST 1048576: true; the input reads as it did. -/
def rowPutsUptoRow : OpenClaim := { program := "ytfnbckgpldkgmaa", sum := "96a16905783893f0584ac9180afbbcbc629ff9f120c31be282525b5601de2cdc", func := "tideline/tidelinelaw04.RowPuts", spec := "rowPuts", unfollowed := true, recurses := true, apart := false, narrowed := true }
def RowPutsUptoSaid : Prop := rowPutsUptoRow.holds Try.pinned (OpenSpec.upto rowPutsSpec)

/-- 'tidelinelaw04.RowGets', WHERE WHAT IT READS IS OF BULK AT MOST 1048576: true; the input reads as it did. -/
def rowGetsUptoRow : OpenClaim := { program := "ytfnbckgpldkgmaa", sum := "96a16905783893f0584ac9180afbbcbc629ff9f120c31be282525b5601de2cdc", func := "tideline/tidelinelaw04.RowGets", spec := "rowGets", unfollowed := true, recurses := true, apart := false, narrowed := true }
def RowGetsUptoSaid : Prop := rowGetsUptoRow.holds Try.pinned (OpenSpec.upto rowGetsSpec)

/-- 'tidelinelaw04.RowBack', WHERE WHAT IT READS IS OF BULK AT MOST 1048576: true; the input reads as it did. -/
def rowBackUptoRow : OpenClaim := { program := "ytfnbckgpldkgmaa", sum := "96a16905783893f0584ac9180afbbcbc629ff9f120c31be282525b5601de2cdc", func := "tideline/tidelinelaw04.RowBack", spec := "rowBack", unfollowed := true, recurses := true, apart := false, narrowed := true }
def RowBackUptoSaid : Prop := rowBackUptoRow.holds Try.pinned (OpenSpec.upto rowBackSpec)

/-- 'tidelinelaw04.RowApart', WHERE WHAT IT READS IS OF BULK AT MOST 1048576: true; the input reads as it did. -/
def rowApartUptoRow : OpenClaim := { program := "ytfnbckgpldkgmaa", sum := "96a16905783893f0584ac9180afbbcbc629ff9f120c31be282525b5601de2cdc", func := "tideline/tidelinelaw04.RowApart", spec := "rowApart", unfollowed := true, recurses := true, apart := false, narrowed := true }
def RowApartUptoSaid : Prop := rowApartUptoRow.holds Try.pinned (OpenSpec.upto rowApartSpec)

/-- 'tidelinelaw04.RowSizes', WHERE WHAT IT READS IS OF BULK AT MOST 1048576: true; the input reads as it did. -/
def rowSizesUptoRow : OpenClaim := { program := "ytfnbckgpldkgmaa", sum := "96a16905783893f0584ac9180afbbcbc629ff9f120c31be282525b5601de2cdc", func := "tideline/tidelinelaw04.RowSizes", spec := "rowSizes", unfollowed := true, recurses := true, apart := false, narrowed := true }
def RowSizesUptoSaid : Prop := rowSizesUptoRow.holds Try.pinned (OpenSpec.upto rowSizesSpec)

/-- 'tidelinelaw04.RowKnown', WHERE WHAT IT READS IS OF BULK AT MOST 1048576: true; the input reads as it did. -/
def rowKnownUptoRow : OpenClaim := { program := "ytfnbckgpldkgmaa", sum := "96a16905783893f0584ac9180afbbcbc629ff9f120c31be282525b5601de2cdc", func := "tideline/tidelinelaw04.RowKnown", spec := "rowKnown", unfollowed := true, recurses := true, apart := false, narrowed := true }
def RowKnownUptoSaid : Prop := rowKnownUptoRow.holds Try.pinned (OpenSpec.upto rowKnownSpec)

end Rows
end Go.Proofs.Ytfnbckgpldkgmaa

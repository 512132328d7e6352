/-
  No cell of these rows narrows 'for every input' (looked for: loops, veiled, ifaces, maps, wideKeys, modest, calm, conditions, laid).
  DERIVED. THE GIVEN ROWS OF THIS SEAT. 5 by the template 'for every input the law returns true; each argument reads behind the call as it read before'; 0 by the template 'total and deterministic' (their statements: YtiohdacbnigpkaaTotals.lean).
  GIVEN WITH THE SEED: the statements are not yours to turn. If you find one false, say at which input.
  Laid BY PROGRAM, IN A SANDBOX (cutbox-rows.mjs): the forced cells as the released guide's own fill.sh prints them over the translation 4b333d4f5b315ecf… (all of the seat's roots in one cut). By AI agents, Wed Nov 11 2026. No macro, syntax, notation, axiom, sorry.
-/
import Derived.Test.YtiohdacbnigpkaaChecked
import GoSem.Claim
import GoSem.ClaimJoined
import GoSem.ClaimMapViews
import Derived.JoinedTies
import Derived.KernelRfl
namespace Go.Proofs.Ytiohdacbnigpkaa
/- THE CELL 'sum', in the pinned program and in every row, IS THE sha256 OF THE DUMP (.gsa) THAT YtiohdacbnigpkaaProg.lean LOADS. Nothing in Lean hashes anything: it is a label: what it is worth is what the hold of that sum in a sandbox is worth. -/
noncomputable def Try.pinned : Pinned := { name := "ytiohdacbnigpkaa", sum := "4b333d4f5b315ecfcaea52a453b90e4f83676be815c718957b12c7d37ba8c7b6", checked := Try.checked }
namespace Rows
def none {H : Type} : Left H := { results := [], args := [] }

/-- 'tidelinelaw10.SpansWhole': WHATEVER THE INPUT: true; the input reads as it did. -/
def spansWholeSpec : ChangeSpec := { name := "spansWhole", fn := fun _ => fun
  | [d1, d2, d3] => { results := [.lit (.bool true)], args := [d1, d2, d3] }
  | _ => none }
def spansWholeRow : OpenClaim := { program := "ytiohdacbnigpkaa", sum := "4b333d4f5b315ecfcaea52a453b90e4f83676be815c718957b12c7d37ba8c7b6", func := "tideline/tidelinelaw10.SpansWhole", spec := "spansWhole", unfollowed := true, recurses := true, apart := false }
def SpansWholeSaid : Prop := spansWholeRow.holds Try.pinned (OpenSpec.ofChange spansWholeSpec)

/-- ITS FALSE NEIGHBOUR: 'it returns false'. Refute it at one input. -/
def spansWholeWrong : ChangeSpec := { name := "spansWhole", fn := fun _ => fun
  | [d1, d2, d3] => { results := [.lit (.bool false)], args := [d1, d2, d3] }
  | _ => none }
def SpansWholeWrongFalsely : Prop := spansWholeRow.holds Try.pinned (OpenSpec.ofChange spansWholeWrong)

/-- 'tidelinelaw10.SpansSets': WHATEVER THE INPUT: true; the input reads as it did. -/
def spansSetsSpec : ChangeSpec := { name := "spansSets", fn := fun _ => fun
  | [d1, d2, d3] => { results := [.lit (.bool true)], args := [d1, d2, d3] }
  | _ => none }
def spansSetsRow : OpenClaim := { program := "ytiohdacbnigpkaa", sum := "4b333d4f5b315ecfcaea52a453b90e4f83676be815c718957b12c7d37ba8c7b6", func := "tideline/tidelinelaw10.SpansSets", spec := "spansSets", unfollowed := true, recurses := true, apart := false }
def SpansSetsSaid : Prop := spansSetsRow.holds Try.pinned (OpenSpec.ofChange spansSetsSpec)

/-- ITS FALSE NEIGHBOUR: 'it returns false'. Refute it at one input. -/
def spansSetsWrong : ChangeSpec := { name := "spansSets", fn := fun _ => fun
  | [d1, d2, d3] => { results := [.lit (.bool false)], args := [d1, d2, d3] }
  | _ => none }
def SpansSetsWrongFalsely : Prop := spansSetsRow.holds Try.pinned (OpenSpec.ofChange spansSetsWrong)

/-- 'tidelinelaw10.SpansTells': WHATEVER THE INPUT: true; the input reads as it did. -/
def spansTellsSpec : ChangeSpec := { name := "spansTells", fn := fun _ => fun
  | [d1, d2, d3, d4] => { results := [.lit (.bool true)], args := [d1, d2, d3, d4] }
  | _ => none }
def spansTellsRow : OpenClaim := { program := "ytiohdacbnigpkaa", sum := "4b333d4f5b315ecfcaea52a453b90e4f83676be815c718957b12c7d37ba8c7b6", func := "tideline/tidelinelaw10.SpansTells", spec := "spansTells", unfollowed := true, recurses := true, apart := false }
def SpansTellsSaid : Prop := spansTellsRow.holds Try.pinned (OpenSpec.ofChange spansTellsSpec)

/-- ITS FALSE NEIGHBOUR: 'it returns false'. Refute it at one input. -/
def spansTellsWrong : ChangeSpec := { name := "spansTells", fn := fun _ => fun
  | [d1, d2, d3, d4] => { results := [.lit (.bool false)], args := [d1, d2, d3, d4] }
  | _ => none }
def SpansTellsWrongFalsely : Prop := spansTellsRow.holds Try.pinned (OpenSpec.ofChange spansTellsWrong)

/-- 'tidelinelaw10.SpansForm': WHATEVER THE INPUT: true; the input reads as it did. -/
def spansFormSpec : ChangeSpec := { name := "spansForm", fn := fun _ => fun
  | [d1, d2, d3] => { results := [.lit (.bool true)], args := [d1, d2, d3] }
  | _ => none }
def spansFormRow : OpenClaim := { program := "ytiohdacbnigpkaa", sum := "4b333d4f5b315ecfcaea52a453b90e4f83676be815c718957b12c7d37ba8c7b6", func := "tideline/tidelinelaw10.SpansForm", spec := "spansForm", unfollowed := true, recurses := true, apart := false }
def SpansFormSaid : Prop := spansFormRow.holds Try.pinned (OpenSpec.ofChange spansFormSpec)

/-- ITS FALSE NEIGHBOUR: 'it returns false'. Refute it at one input. -/
def spansFormWrong : ChangeSpec := { name := "spansForm", fn := fun _ => fun
  | [d1, d2, d3] => { results := [.lit (.bool false)], args := [d1, d2, d3] }
  | _ => none }
def SpansFormWrongFalsely : Prop := spansFormRow.holds Try.pinned (OpenSpec.ofChange spansFormWrong)

/-- 'tidelinelaw10.SpansAlign': WHATEVER THE INPUT: true; the input reads as it did. -/
def spansAlignSpec : ChangeSpec := { name := "spansAlign", fn := fun _ => fun
  | [d1, d2, d3] => { results := [.lit (.bool true)], args := [d1, d2, d3] }
  | _ => none }
def spansAlignRow : OpenClaim := { program := "ytiohdacbnigpkaa", sum := "4b333d4f5b315ecfcaea52a453b90e4f83676be815c718957b12c7d37ba8c7b6", func := "tideline/tidelinelaw10.SpansAlign", spec := "spansAlign", unfollowed := true, recurses := true, apart := false }
def SpansAlignSaid : Prop := spansAlignRow.holds Try.pinned (OpenSpec.ofChange spansAlignSpec)

/-- ITS FALSE NEIGHBOUR: 'it returns false'. Refute it at one input. -/
def spansAlignWrong : ChangeSpec := { name := "spansAlign", fn := fun _ => fun
  | [d1, d2, d3] => { results := [.lit (.bool false)], args := [d1, d2, d3] }
  | _ => none }
def SpansAlignWrongFalsely : Prop := spansAlignRow.holds Try.pinned (OpenSpec.ofChange spansAlignWrong)

/- THE SECOND FORM. 'bulk': how many values and letters a reading holds, each counted each time it is reached (what is shared counts as often as it is met; a slice's spare places count too). A statement '..UptoSaid' is the law's where the arguments, and the package variables that the reading takes, are together of bulk at most 1048576: NARROWER than '..Said'. Prove '..Said' where nothing that the law and all that it calls make is longer than what came in: it says more and counts as full. Else prove '..UptoSaid'. A law counts once. -/
mutual
def uptoBulk {H : Type} : DataW H → Nat
  | .lit (.string bytes) => bytes.length + 1
  | .lit _ => 1
  | .nil => 1
  | .ptr d => uptoBulk d + 1
  | .slice elems spare => uptoBulkAll elems + uptoBulkAll spare + 1
  | .agg parts => uptoBulkAll parts + 1
  | .iface _ d => uptoBulk d + 1
  | .map entries => uptoBulkEntries entries + 1
  | .held _ => 1
def uptoBulkAll {H : Type} : List (DataW H) → Nat
  | [] => 0
  | d :: r => uptoBulk d + uptoBulkAll r
def uptoBulkEntries {H : Type} : List (Lit × DataW H) → Nat
  | [] => 0
  | x :: r => uptoBulkEntry x + uptoBulkEntries r
def uptoBulkEntry {H : Type} : Lit × DataW H → Nat
  | (.string bytes, d) => bytes.length + uptoBulk d + 1
  | (_, d) => uptoBulk d + 1
 end
def uptoSmall : (H : Type) → List (DataW H) → Bool := fun _ ds => decide (uptoBulkAll ds ≤ 1048576)
def OpenSpec.upto (s : _root_.Go.ChangeSpec) : _root_.Go.OpenSpec := { _root_.Go.OpenSpec.ofChange s with cond := some uptoSmall }

/-- 'tidelinelaw10.SpansWhole', WHERE WHAT IT READS IS OF BULK AT MOST 1048576: true; the input reads as it did. -/
def spansWholeUptoRow : OpenClaim := { program := "ytiohdacbnigpkaa", sum := "4b333d4f5b315ecfcaea52a453b90e4f83676be815c718957b12c7d37ba8c7b6", func := "tideline/tidelinelaw10.SpansWhole", spec := "spansWhole", unfollowed := true, recurses := true, apart := false, narrowed := true }
def SpansWholeUptoSaid : Prop := spansWholeUptoRow.holds Try.pinned (OpenSpec.upto spansWholeSpec)

/-- 'tidelinelaw10.SpansSets', WHERE WHAT IT READS IS OF BULK AT MOST 1048576: true; the input reads as it did. -/
def spansSetsUptoRow : OpenClaim := { program := "ytiohdacbnigpkaa", sum := "4b333d4f5b315ecfcaea52a453b90e4f83676be815c718957b12c7d37ba8c7b6", func := "tideline/tidelinelaw10.SpansSets", spec := "spansSets", unfollowed := true, recurses := true, apart := false, narrowed := true }
def SpansSetsUptoSaid : Prop := spansSetsUptoRow.holds Try.pinned (OpenSpec.upto spansSetsSpec)

/-- 'tidelinelaw10.SpansTells', WHERE WHAT IT READS IS OF BULK AT MOST 1048576: true; the input reads as it did. -/
def spansTellsUptoRow : OpenClaim := { program := "ytiohdacbnigpkaa", sum := "4b333d4f5b315ecfcaea52a453b90e4f83676be815c718957b12c7d37ba8c7b6", func := "tideline/tidelinelaw10.SpansTells", spec := "spansTells", unfollowed := true, recurses := true, apart := false, narrowed := true }
def SpansTellsUptoSaid : Prop := spansTellsUptoRow.holds Try.pinned (OpenSpec.upto spansTellsSpec)

/-- 'tidelinelaw10.SpansForm', WHERE WHAT IT READS IS OF BULK AT MOST 1048576: true; the input reads as it did. -/
def spansFormUptoRow : OpenClaim := { program := "ytiohdacbnigpkaa", sum := "4b333d4f5b315ecfcaea52a453b90e4f83676be815c718957b12c7d37ba8c7b6", func := "tideline/tidelinelaw10.SpansForm", spec := "spansForm", unfollowed := true, recurses := true, apart := false, narrowed := true }
def SpansFormUptoSaid : Prop := spansFormUptoRow.holds Try.pinned (OpenSpec.upto spansFormSpec)

/-- 'tidelinelaw10.SpansAlign', WHERE WHAT IT READS IS OF BULK AT MOST 1048576: true; the input reads as it did. -/
def spansAlignUptoRow : OpenClaim := { program := "ytiohdacbnigpkaa", sum := "4b333d4f5b315ecfcaea52a453b90e4f83676be815c718957b12c7d37ba8c7b6", func := "tideline/tidelinelaw10.SpansAlign", spec := "spansAlign", unfollowed := true, recurses := true, apart := false, narrowed := true }
def SpansAlignUptoSaid : Prop := spansAlignUptoRow.holds Try.pinned (OpenSpec.upto spansAlignSpec)

end Rows
end Go.Proofs.Ytiohdacbnigpkaa

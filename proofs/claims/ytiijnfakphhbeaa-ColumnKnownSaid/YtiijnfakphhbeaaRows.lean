/-
  No cell of these rows narrows 'for every input' (looked for: loops, veiled, ifaces, maps, wideKeys, modest, calm, conditions, laid).
  DERIVED. THE GIVEN ROWS OF THIS SEAT. 8 by the template 'for every input the law returns true; each argument reads behind the call as it read before'; 0 by the template 'total and deterministic' (their statements: YtiijnfakphhbeaaTotals.lean).
  GIVEN WITH THE SEED: the statements are not yours to turn. If you find one false, say at which input.
  Laid BY PROGRAM, IN A SANDBOX (cutbox-rows.mjs): the forced cells as the released guide's own fill.sh prints them over the translation 72bd63c811691fd3… (all of the seat's roots in one cut). By AI agents, Wed Nov 11 2026. No macro, syntax, notation, axiom, sorry.
-/
import Derived.Test.YtiijnfakphhbeaaChecked
import GoSem.Claim
import GoSem.ClaimJoined
import GoSem.ClaimMapViews
import Derived.JoinedTies
import Derived.KernelRfl
namespace Go.Proofs.Ytiijnfakphhbeaa
/- THE CELL 'sum', in the pinned program and in every row, IS THE sha256 OF THE DUMP (.gsa) THAT YtiijnfakphhbeaaProg.lean LOADS. Nothing in Lean hashes anything: it is a label: what it is worth is what the hold of that sum in a sandbox is worth. -/
noncomputable def Try.pinned : Pinned := { name := "ytiijnfakphhbeaa", sum := "72bd63c811691fd32d4158e48123dee7be49d20937475a0b06eadebd688dce35", checked := Try.checked }
namespace Rows
def none {H : Type} : Left H := { results := [], args := [] }

/-- 'tidelinelaw06.ColumnPuts': WHATEVER THE INPUT: true; the input reads as it did. -/
def columnPutsSpec : ChangeSpec := { name := "columnPuts", fn := fun _ => fun
  | [d1, d2] => { results := [.lit (.bool true)], args := [d1, d2] }
  | _ => none }
def columnPutsRow : OpenClaim := { program := "ytiijnfakphhbeaa", sum := "72bd63c811691fd32d4158e48123dee7be49d20937475a0b06eadebd688dce35", func := "tideline/tidelinelaw06.ColumnPuts", spec := "columnPuts", unfollowed := true, recurses := true, apart := false }
def ColumnPutsSaid : Prop := columnPutsRow.holds Try.pinned (OpenSpec.ofChange columnPutsSpec)

/-- ITS FALSE NEIGHBOUR: 'it returns false'. Refute it at one input. -/
def columnPutsWrong : ChangeSpec := { name := "columnPuts", fn := fun _ => fun
  | [d1, d2] => { results := [.lit (.bool false)], args := [d1, d2] }
  | _ => none }
def ColumnPutsWrongFalsely : Prop := columnPutsRow.holds Try.pinned (OpenSpec.ofChange columnPutsWrong)

/-- 'tidelinelaw06.ColumnGets': WHATEVER THE INPUT: true; the input reads as it did. -/
def columnGetsSpec : ChangeSpec := { name := "columnGets", fn := fun _ => fun
  | [d1, d2, d3] => { results := [.lit (.bool true)], args := [d1, d2, d3] }
  | _ => none }
def columnGetsRow : OpenClaim := { program := "ytiijnfakphhbeaa", sum := "72bd63c811691fd32d4158e48123dee7be49d20937475a0b06eadebd688dce35", func := "tideline/tidelinelaw06.ColumnGets", spec := "columnGets", unfollowed := true, recurses := true, apart := false }
def ColumnGetsSaid : Prop := columnGetsRow.holds Try.pinned (OpenSpec.ofChange columnGetsSpec)

/-- ITS FALSE NEIGHBOUR: 'it returns false'. Refute it at one input. -/
def columnGetsWrong : ChangeSpec := { name := "columnGets", fn := fun _ => fun
  | [d1, d2, d3] => { results := [.lit (.bool false)], args := [d1, d2, d3] }
  | _ => none }
def ColumnGetsWrongFalsely : Prop := columnGetsRow.holds Try.pinned (OpenSpec.ofChange columnGetsWrong)

/-- 'tidelinelaw06.ColumnBack': WHATEVER THE INPUT: true; the input reads as it did. -/
def columnBackSpec : ChangeSpec := { name := "columnBack", fn := fun _ => fun
  | [d1, d2, d3, d4] => { results := [.lit (.bool true)], args := [d1, d2, d3, d4] }
  | _ => none }
def columnBackRow : OpenClaim := { program := "ytiijnfakphhbeaa", sum := "72bd63c811691fd32d4158e48123dee7be49d20937475a0b06eadebd688dce35", func := "tideline/tidelinelaw06.ColumnBack", spec := "columnBack", unfollowed := true, recurses := true, apart := false }
def ColumnBackSaid : Prop := columnBackRow.holds Try.pinned (OpenSpec.ofChange columnBackSpec)

/-- ITS FALSE NEIGHBOUR: 'it returns false'. Refute it at one input. -/
def columnBackWrong : ChangeSpec := { name := "columnBack", fn := fun _ => fun
  | [d1, d2, d3, d4] => { results := [.lit (.bool false)], args := [d1, d2, d3, d4] }
  | _ => none }
def ColumnBackWrongFalsely : Prop := columnBackRow.holds Try.pinned (OpenSpec.ofChange columnBackWrong)

/-- 'tidelinelaw06.ColumnApart': WHATEVER THE INPUT: true; the input reads as it did. -/
def columnApartSpec : ChangeSpec := { name := "columnApart", fn := fun _ => fun
  | [d1, d2, d3, d4, d5] => { results := [.lit (.bool true)], args := [d1, d2, d3, d4, d5] }
  | _ => none }
def columnApartRow : OpenClaim := { program := "ytiijnfakphhbeaa", sum := "72bd63c811691fd32d4158e48123dee7be49d20937475a0b06eadebd688dce35", func := "tideline/tidelinelaw06.ColumnApart", spec := "columnApart", unfollowed := true, recurses := true, apart := false }
def ColumnApartSaid : Prop := columnApartRow.holds Try.pinned (OpenSpec.ofChange columnApartSpec)

/-- ITS FALSE NEIGHBOUR: 'it returns false'. Refute it at one input. -/
def columnApartWrong : ChangeSpec := { name := "columnApart", fn := fun _ => fun
  | [d1, d2, d3, d4, d5] => { results := [.lit (.bool false)], args := [d1, d2, d3, d4, d5] }
  | _ => none }
def ColumnApartWrongFalsely : Prop := columnApartRow.holds Try.pinned (OpenSpec.ofChange columnApartWrong)

/-- 'tidelinelaw06.ColumnSmall': WHATEVER THE INPUT: true; the input reads as it did. -/
def columnSmallSpec : ChangeSpec := { name := "columnSmall", fn := fun _ => fun
  | [d1, d2] => { results := [.lit (.bool true)], args := [d1, d2] }
  | _ => none }
def columnSmallRow : OpenClaim := { program := "ytiijnfakphhbeaa", sum := "72bd63c811691fd32d4158e48123dee7be49d20937475a0b06eadebd688dce35", func := "tideline/tidelinelaw06.ColumnSmall", spec := "columnSmall", unfollowed := true, recurses := true, apart := false }
def ColumnSmallSaid : Prop := columnSmallRow.holds Try.pinned (OpenSpec.ofChange columnSmallSpec)

/-- ITS FALSE NEIGHBOUR: 'it returns false'. Refute it at one input. -/
def columnSmallWrong : ChangeSpec := { name := "columnSmall", fn := fun _ => fun
  | [d1, d2] => { results := [.lit (.bool false)], args := [d1, d2] }
  | _ => none }
def ColumnSmallWrongFalsely : Prop := columnSmallRow.holds Try.pinned (OpenSpec.ofChange columnSmallWrong)

/-- 'tidelinelaw06.ColumnBounds': WHATEVER THE INPUT: true; the input reads as it did. -/
def columnBoundsSpec : ChangeSpec := { name := "columnBounds", fn := fun _ => fun
  | [d] => { results := [.lit (.bool true)], args := [d] }
  | _ => none }
def columnBoundsRow : OpenClaim := { program := "ytiijnfakphhbeaa", sum := "72bd63c811691fd32d4158e48123dee7be49d20937475a0b06eadebd688dce35", func := "tideline/tidelinelaw06.ColumnBounds", spec := "columnBounds", inPlace := ["internal/bytealg.Compare"], unfollowed := true, recurses := true, apart := false }
def ColumnBoundsSaid : Prop := columnBoundsRow.holds Try.pinned (OpenSpec.ofChange columnBoundsSpec)

/-- ITS FALSE NEIGHBOUR: 'it returns false'. Refute it at one input. -/
def columnBoundsWrong : ChangeSpec := { name := "columnBounds", fn := fun _ => fun
  | [d] => { results := [.lit (.bool false)], args := [d] }
  | _ => none }
def ColumnBoundsWrongFalsely : Prop := columnBoundsRow.holds Try.pinned (OpenSpec.ofChange columnBoundsWrong)

/-- 'tidelinelaw06.ColumnLies': WHATEVER THE INPUT: true; the input reads as it did. -/
def columnLiesSpec : ChangeSpec := { name := "columnLies", fn := fun _ => fun
  | [d1, d2, d3] => { results := [.lit (.bool true)], args := [d1, d2, d3] }
  | _ => none }
def columnLiesRow : OpenClaim := { program := "ytiijnfakphhbeaa", sum := "72bd63c811691fd32d4158e48123dee7be49d20937475a0b06eadebd688dce35", func := "tideline/tidelinelaw06.ColumnLies", spec := "columnLies", inPlace := ["internal/bytealg.Compare"], unfollowed := true, recurses := true, apart := false }
def ColumnLiesSaid : Prop := columnLiesRow.holds Try.pinned (OpenSpec.ofChange columnLiesSpec)

/-- ITS FALSE NEIGHBOUR: 'it returns false'. Refute it at one input. -/
def columnLiesWrong : ChangeSpec := { name := "columnLies", fn := fun _ => fun
  | [d1, d2, d3] => { results := [.lit (.bool false)], args := [d1, d2, d3] }
  | _ => none }
def ColumnLiesWrongFalsely : Prop := columnLiesRow.holds Try.pinned (OpenSpec.ofChange columnLiesWrong)

/-- 'tidelinelaw06.ColumnKnown': WHATEVER THE INPUT: true; the input reads as it did. -/
def columnKnownSpec : ChangeSpec := { name := "columnKnown", fn := fun _ => fun
  | [] => { results := [.lit (.bool true)], args := [] }
  | _ => none }
def columnKnownRow : OpenClaim := { program := "ytiijnfakphhbeaa", sum := "72bd63c811691fd32d4158e48123dee7be49d20937475a0b06eadebd688dce35", func := "tideline/tidelinelaw06.ColumnKnown", spec := "columnKnown", inPlace := ["internal/bytealg.Compare"], unfollowed := true, recurses := true, apart := false }
def ColumnKnownSaid : Prop := columnKnownRow.holds Try.pinned (OpenSpec.ofChange columnKnownSpec)

/-- ITS FALSE NEIGHBOUR: 'it returns false'. Refute it at one input. -/
def columnKnownWrong : ChangeSpec := { name := "columnKnown", fn := fun _ => fun
  | [] => { results := [.lit (.bool false)], args := [] }
  | _ => none }
def ColumnKnownWrongFalsely : Prop := columnKnownRow.holds Try.pinned (OpenSpec.ofChange columnKnownWrong)

/- THE SECOND FORM. 'bulk': how many values and letters a reading holds, each counted each time it is reached (what is shared counts as often as it is met; a slice's spare places count too). A statement '..UptoSaid' is the law's where the arguments, and the package variables that the reading takes, are together of bulk at most 1048576: NARROWER than '..Said'. Prove '..Said' where nothing that the law and all that it calls make is longer than what came in: it says more and counts as full. Else prove '..UptoSaid'. A law counts once. -/
mutual
def uptoBulk {H : Type} : DataW H → Nat
  | .lit (.string bytes) => bytes.length + 1
  | .lit _ => 1
  | .nil => 1
  | .ptr d => uptoBulk d + 1
  | .slice elems spare => uptoBulkAll elems + uptoBulkAll spare + 1
  | .agg parts => uptoBulkAll parts + 1
  | .iface _ d => uptoBulk d + 1
  | .map entries => uptoBulkEntries entries + 1
  | .held _ => 1
def uptoBulkAll {H : Type} : List (DataW H) → Nat
  | [] => 0
  | d :: r => uptoBulk d + uptoBulkAll r
def uptoBulkEntries {H : Type} : List (Lit × DataW H) → Nat
  | [] => 0
  | x :: r => uptoBulkEntry x + uptoBulkEntries r
def uptoBulkEntry {H : Type} : Lit × DataW H → Nat
  | (.string bytes, d) => bytes.length + uptoBulk d + 1
  | (_, d) => uptoBulk d + 1
 end
def uptoSmall : (H : Type) → List (DataW H) → Bool := fun _ ds => decide (uptoBulkAll ds ≤ 1048576)
def OpenSpec.upto (s : _root_.Go.ChangeSpec) : _root_.Go.OpenSpec := { _root_.Go.OpenSpec.ofChange s with cond := some uptoSmall }

/-- 'tidelinelaw06.ColumnPuts', WHERE WHAT IT READS IS OF BULK AT MOST 1048576: true; the input reads as it did. -/
def columnPutsUptoRow : OpenClaim := { program := "ytiijnfakphhbeaa", sum := "72bd63c811691fd32d4158e48123dee7be49d20937475a0b06eadebd688dce35", func := "tideline/tidelinelaw06.ColumnPuts", spec := "columnPuts", unfollowed := true, recurses := true, apart := false, narrowed := true }
def ColumnPutsUptoSaid : Prop := columnPutsUptoRow.holds Try.pinned (OpenSpec.upto columnPutsSpec)

/-- 'tidelinelaw06.ColumnGets', WHERE WHAT IT READS IS OF BULK AT MOST 1048576: true; the input reads as it did. -/
def columnGetsUptoRow : OpenClaim := { program := "ytiijnfakphhbeaa", sum := "72bd63c811691fd32d4158e48123dee7be49d20937475a0b06eadebd688dce35", func := "tideline/tidelinelaw06.ColumnGets", spec := "columnGets", unfollowed := true, recurses := true, apart := false, narrowed := true }
def ColumnGetsUptoSaid : Prop := columnGetsUptoRow.holds Try.pinned (OpenSpec.upto columnGetsSpec)

/-- 'tidelinelaw06.ColumnBack', WHERE WHAT IT READS IS OF BULK AT MOST 1048576: true; the input reads as it did. -/
def columnBackUptoRow : OpenClaim := { program := "ytiijnfakphhbeaa", sum := "72bd63c811691fd32d4158e48123dee7be49d20937475a0b06eadebd688dce35", func := "tideline/tidelinelaw06.ColumnBack", spec := "columnBack", unfollowed := true, recurses := true, apart := false, narrowed := true }
def ColumnBackUptoSaid : Prop := columnBackUptoRow.holds Try.pinned (OpenSpec.upto columnBackSpec)

/-- 'tidelinelaw06.ColumnApart', WHERE WHAT IT READS IS OF BULK AT MOST 1048576: true; the input reads as it did. -/
def columnApartUptoRow : OpenClaim := { program := "ytiijnfakphhbeaa", sum := "72bd63c811691fd32d4158e48123dee7be49d20937475a0b06eadebd688dce35", func := "tideline/tidelinelaw06.ColumnApart", spec := "columnApart", unfollowed := true, recurses := true, apart := false, narrowed := true }
def ColumnApartUptoSaid : Prop := columnApartUptoRow.holds Try.pinned (OpenSpec.upto columnApartSpec)

/-- 'tidelinelaw06.ColumnSmall', WHERE WHAT IT READS IS OF BULK AT MOST 1048576: true; the input reads as it did. -/
def columnSmallUptoRow : OpenClaim := { program := "ytiijnfakphhbeaa", sum := "72bd63c811691fd32d4158e48123dee7be49d20937475a0b06eadebd688dce35", func := "tideline/tidelinelaw06.ColumnSmall", spec := "columnSmall", unfollowed := true, recurses := true, apart := false, narrowed := true }
def ColumnSmallUptoSaid : Prop := columnSmallUptoRow.holds Try.pinned (OpenSpec.upto columnSmallSpec)

/-- 'tidelinelaw06.ColumnBounds', WHERE WHAT IT READS IS OF BULK AT MOST 1048576: true; the input reads as it did. -/
def columnBoundsUptoRow : OpenClaim := { program := "ytiijnfakphhbeaa", sum := "72bd63c811691fd32d4158e48123dee7be49d20937475a0b06eadebd688dce35", func := "tideline/tidelinelaw06.ColumnBounds", spec := "columnBounds", inPlace := ["internal/bytealg.Compare"], unfollowed := true, recurses := true, apart := false, narrowed := true }
def ColumnBoundsUptoSaid : Prop := columnBoundsUptoRow.holds Try.pinned (OpenSpec.upto columnBoundsSpec)

/-- 'tidelinelaw06.ColumnLies', WHERE WHAT IT READS IS OF BULK AT MOST 1048576: true; the input reads as it did. -/
def columnLiesUptoRow : OpenClaim := { program := "ytiijnfakphhbeaa", sum := "72bd63c811691fd32d4158e48123dee7be49d20937475a0b06eadebd688dce35", func := "tideline/tidelinelaw06.ColumnLies", spec := "columnLies", inPlace := ["internal/bytealg.Compare"], unfollowed := true, recurses := true, apart := false, narrowed := true }
def ColumnLiesUptoSaid : Prop := columnLiesUptoRow.holds Try.pinned (OpenSpec.upto columnLiesSpec)

/-- 'tidelinelaw06.ColumnKnown', WHERE WHAT IT READS IS OF BULK AT MOST 1048576: true; the input reads as it did. -/
def columnKnownUptoRow : OpenClaim := { program := "ytiijnfakphhbeaa", sum := "72bd63c811691fd32d4158e48123dee7be49d20937475a0b06eadebd688dce35", func := "tideline/tidelinelaw06.ColumnKnown", spec := "columnKnown", inPlace := ["internal/bytealg.Compare"], unfollowed := true, recurses := true, apart := false, narrowed := true }
def ColumnKnownUptoSaid : Prop := columnKnownUptoRow.holds Try.pinned (OpenSpec.upto columnKnownSpec)

end Rows
end Go.Proofs.Ytiijnfakphhbeaa

/-
  No cell of these rows narrows 'for every input' (looked for: loops, veiled, ifaces, maps, wideKeys, modest, calm, conditions, laid).
  DERIVED. THE GIVEN ROWS OF THIS SEAT. 6 by the template 'for every input the law returns true; each argument reads behind the call as it read before'; 0 by the template 'total and deterministic' (their statements: YthkpgjcnnfdibaaTotals.lean).
  GIVEN WITH THE SEED: the statements are not yours to turn. If you find one false, say at which input.
  Laid BY PROGRAM, IN A SANDBOX (cutbox-rows.mjs): the forced cells as the released guide's own fill.sh prints them over the translation 3b8960ae4efb2002… (all of the seat's roots in one cut). By AI agents, Wed Nov 11 2026. No macro, syntax, notation, axiom, sorry.
-/
import Derived.Test.YthkpgjcnnfdibaaChecked
import GoSem.Claim
import GoSem.ClaimJoined
import GoSem.ClaimMapViews
import Derived.JoinedTies
import Derived.KernelRfl
namespace Go.Proofs.Ythkpgjcnnfdibaa
/- THE CELL 'sum', in the pinned program and in every row, IS THE sha256 OF THE DUMP (.gsa) THAT YthkpgjcnnfdibaaProg.lean LOADS. Nothing in Lean hashes anything: it is a label: what it is worth is what the hold of that sum in a sandbox is worth. -/
noncomputable def Try.pinned : Pinned := { name := "ythkpgjcnnfdibaa", sum := "3b8960ae4efb20020e9e2a642345a70e4b83a82cdeafcf41fea6f72526768153", checked := Try.checked }
namespace Rows
def none {H : Type} : Left H := { results := [], args := [] }

/-- 'tidelinelaw07.SegmentMakes': WHATEVER THE INPUT: true; the input reads as it did. -/
def segmentMakesSpec : ChangeSpec := { name := "segmentMakes", fn := fun _ => fun
  | [d1, d2] => { results := [.lit (.bool true)], args := [d1, d2] }
  | _ => none }
def segmentMakesRow : OpenClaim := { program := "ythkpgjcnnfdibaa", sum := "3b8960ae4efb20020e9e2a642345a70e4b83a82cdeafcf41fea6f72526768153", func := "tideline/tidelinelaw07.SegmentMakes", spec := "segmentMakes", inPlace := ["internal/bytealg.Compare"], unfollowed := true, recurses := true, apart := false }
def SegmentMakesSaid : Prop := segmentMakesRow.holds Try.pinned (OpenSpec.ofChange segmentMakesSpec)

/-- ITS FALSE NEIGHBOUR: 'it returns false'. Refute it at one input. -/
def segmentMakesWrong : ChangeSpec := { name := "segmentMakes", fn := fun _ => fun
  | [d1, d2] => { results := [.lit (.bool false)], args := [d1, d2] }
  | _ => none }
def SegmentMakesWrongFalsely : Prop := segmentMakesRow.holds Try.pinned (OpenSpec.ofChange segmentMakesWrong)

/-- 'tidelinelaw07.SegmentOpens': WHATEVER THE INPUT: true; the input reads as it did. -/
def segmentOpensSpec : ChangeSpec := { name := "segmentOpens", fn := fun _ => fun
  | [d1, d2] => { results := [.lit (.bool true)], args := [d1, d2] }
  | _ => none }
def segmentOpensRow : OpenClaim := { program := "ythkpgjcnnfdibaa", sum := "3b8960ae4efb20020e9e2a642345a70e4b83a82cdeafcf41fea6f72526768153", func := "tideline/tidelinelaw07.SegmentOpens", spec := "segmentOpens", inPlace := ["internal/bytealg.Compare"], unfollowed := true, recurses := true, apart := false }
def SegmentOpensSaid : Prop := segmentOpensRow.holds Try.pinned (OpenSpec.ofChange segmentOpensSpec)

/-- ITS FALSE NEIGHBOUR: 'it returns false'. Refute it at one input. -/
def segmentOpensWrong : ChangeSpec := { name := "segmentOpens", fn := fun _ => fun
  | [d1, d2] => { results := [.lit (.bool false)], args := [d1, d2] }
  | _ => none }
def SegmentOpensWrongFalsely : Prop := segmentOpensRow.holds Try.pinned (OpenSpec.ofChange segmentOpensWrong)

/-- 'tidelinelaw07.SegmentBack': WHATEVER THE INPUT: true; the input reads as it did. -/
def segmentBackSpec : ChangeSpec := { name := "segmentBack", fn := fun _ => fun
  | [d1, d2, d3] => { results := [.lit (.bool true)], args := [d1, d2, d3] }
  | _ => none }
def segmentBackRow : OpenClaim := { program := "ythkpgjcnnfdibaa", sum := "3b8960ae4efb20020e9e2a642345a70e4b83a82cdeafcf41fea6f72526768153", func := "tideline/tidelinelaw07.SegmentBack", spec := "segmentBack", inPlace := ["internal/bytealg.Compare"], unfollowed := true, recurses := true, apart := false }
def SegmentBackSaid : Prop := segmentBackRow.holds Try.pinned (OpenSpec.ofChange segmentBackSpec)

/-- ITS FALSE NEIGHBOUR: 'it returns false'. Refute it at one input. -/
def segmentBackWrong : ChangeSpec := { name := "segmentBack", fn := fun _ => fun
  | [d1, d2, d3] => { results := [.lit (.bool false)], args := [d1, d2, d3] }
  | _ => none }
def SegmentBackWrongFalsely : Prop := segmentBackRow.holds Try.pinned (OpenSpec.ofChange segmentBackWrong)

/-- 'tidelinelaw07.SegmentBounds': WHATEVER THE INPUT: true; the input reads as it did. -/
def segmentBoundsSpec : ChangeSpec := { name := "segmentBounds", fn := fun _ => fun
  | [d1, d2] => { results := [.lit (.bool true)], args := [d1, d2] }
  | _ => none }
def segmentBoundsRow : OpenClaim := { program := "ythkpgjcnnfdibaa", sum := "3b8960ae4efb20020e9e2a642345a70e4b83a82cdeafcf41fea6f72526768153", func := "tideline/tidelinelaw07.SegmentBounds", spec := "segmentBounds", inPlace := ["internal/bytealg.Compare"], unfollowed := true, recurses := true, apart := false }
def SegmentBoundsSaid : Prop := segmentBoundsRow.holds Try.pinned (OpenSpec.ofChange segmentBoundsSpec)

/-- ITS FALSE NEIGHBOUR: 'it returns false'. Refute it at one input. -/
def segmentBoundsWrong : ChangeSpec := { name := "segmentBounds", fn := fun _ => fun
  | [d1, d2] => { results := [.lit (.bool false)], args := [d1, d2] }
  | _ => none }
def SegmentBoundsWrongFalsely : Prop := segmentBoundsRow.holds Try.pinned (OpenSpec.ofChange segmentBoundsWrong)

/-- 'tidelinelaw07.SegmentCuts': WHATEVER THE INPUT: true; the input reads as it did. -/
def segmentCutsSpec : ChangeSpec := { name := "segmentCuts", fn := fun _ => fun
  | [d1, d2, d3] => { results := [.lit (.bool true)], args := [d1, d2, d3] }
  | _ => none }
def segmentCutsRow : OpenClaim := { program := "ythkpgjcnnfdibaa", sum := "3b8960ae4efb20020e9e2a642345a70e4b83a82cdeafcf41fea6f72526768153", func := "tideline/tidelinelaw07.SegmentCuts", spec := "segmentCuts", inPlace := ["internal/bytealg.Compare"], unfollowed := true, recurses := true, apart := false }
def SegmentCutsSaid : Prop := segmentCutsRow.holds Try.pinned (OpenSpec.ofChange segmentCutsSpec)

/-- ITS FALSE NEIGHBOUR: 'it returns false'. Refute it at one input. -/
def segmentCutsWrong : ChangeSpec := { name := "segmentCuts", fn := fun _ => fun
  | [d1, d2, d3] => { results := [.lit (.bool false)], args := [d1, d2, d3] }
  | _ => none }
def SegmentCutsWrongFalsely : Prop := segmentCutsRow.holds Try.pinned (OpenSpec.ofChange segmentCutsWrong)

/-- 'tidelinelaw07.SegmentKnown': WHATEVER THE INPUT: true; the input reads as it did. -/
def segmentKnownSpec : ChangeSpec := { name := "segmentKnown", fn := fun _ => fun
  | [] => { results := [.lit (.bool true)], args := [] }
  | _ => none }
def segmentKnownRow : OpenClaim := { program := "ythkpgjcnnfdibaa", sum := "3b8960ae4efb20020e9e2a642345a70e4b83a82cdeafcf41fea6f72526768153", func := "tideline/tidelinelaw07.SegmentKnown", spec := "segmentKnown", inPlace := ["internal/bytealg.Compare"], unfollowed := true, recurses := true, apart := false }
def SegmentKnownSaid : Prop := segmentKnownRow.holds Try.pinned (OpenSpec.ofChange segmentKnownSpec)

/-- ITS FALSE NEIGHBOUR: 'it returns false'. Refute it at one input. -/
def segmentKnownWrong : ChangeSpec := { name := "segmentKnown", fn := fun _ => fun
  | [] => { results := [.lit (.bool false)], args := [] }
  | _ => none }
def SegmentKnownWrongFalsely : Prop := segmentKnownRow.holds Try.pinned (OpenSpec.ofChange segmentKnownWrong)

/- THE SECOND FORM. 'bulk': how many values and letters a reading holds, each counted each time it is reached (what is shared counts as often as it is met; a slice's spare places count too). A statement '..UptoSaid' is the law's where the arguments, and the package variables that the reading takes, are together of bulk at most 1048576: NARROWER than '..Said'. Prove '..Said' where nothing that the law and all that it calls make is longer than what came in: it says more and counts as full. Else prove '..UptoSaid'. A law counts once. -/
mutual
def uptoBulk {H : Type} : DataW H → Nat
  | .lit (.string bytes) => bytes.length + 1
  | .lit _ => 1
  | .nil => 1
  | .ptr d => uptoBulk d + 1
  | .slice elems spare => uptoBulkAll elems + uptoBulkAll spare + 1
  | .agg parts => uptoBulkAll parts + 1
  | .iface _ d => uptoBulk d + 1
  | .map entries => uptoBulkEntries entries + 1
  | .held _ => 1
def uptoBulkAll {H : Type} : List (DataW H) → Nat
  | [] => 0
  | d :: r => uptoBulk d + uptoBulkAll r
def uptoBulkEntries {H : Type} : List (Lit × DataW H) → Nat
  | [] => 0
  | x :: r => uptoBulkEntry x + uptoBulkEntries r
def uptoBulkEntry {H : Type} : Lit × DataW H → Nat
  | (.string bytes, d) => bytes.length + uptoBulk d + 1
  | (_, d) => uptoBulk d + 1
 end
def uptoSmall : (H : Type) → List (DataW H) → Bool := fun _ ds => decide (uptoBulkAll ds ≤ 1048576)
def OpenSpec.upto (s : _root_.Go.ChangeSpec) : _root_.Go.OpenSpec := { _root_.Go.OpenSpec.ofChange s with cond := some uptoSmall }

/-- 'tidelinelaw07.SegmentMakes', WHERE WHAT IT READS IS OF BULK AT MOST 1048576: true; the input reads as it did. -/
def segmentMakesUptoRow : OpenClaim := { program := "ythkpgjcnnfdibaa", sum := "3b8960ae4efb20020e9e2a642345a70e4b83a82cdeafcf41fea6f72526768153", func := "tideline/tidelinelaw07.SegmentMakes", spec := "segmentMakes", inPlace := ["internal/bytealg.Compare"], unfollowed := true, recurses := true, apart := false, narrowed := true }
def SegmentMakesUptoSaid : Prop := segmentMakesUptoRow.holds Try.pinned (OpenSpec.upto segmentMakesSpec)

/-- 'tidelinelaw07.SegmentOpens', WHERE WHAT IT READS IS OF BULK AT MOST 1048576: true; the input reads as it did. -/
def segmentOpensUptoRow : OpenClaim := { program := "ythkpgjcnnfdibaa", sum := "3b8960ae4efb20020e9e2a642345a70e4b83a82cdeafcf41fea6f72526768153", func := "tideline/tidelinelaw07.SegmentOpens", spec := "segmentOpens", inPlace := ["internal/bytealg.Compare"], unfollowed := true, recurses := true, apart := false, narrowed := true }
def SegmentOpensUptoSaid : Prop := segmentOpensUptoRow.holds Try.pinned (OpenSpec.upto segmentOpensSpec)

/-- 'tidelinelaw07.SegmentBack', WHERE WHAT IT READS IS OF BULK AT MOST 1048576: true; the input reads as it did. -/
def segmentBackUptoRow : OpenClaim := { program := "ythkpgjcnnfdibaa", sum := "3b8960ae4efb20020e9e2a642345a70e4b83a82cdeafcf41fea6f72526768153", func := "tideline/tidelinelaw07.SegmentBack", spec := "segmentBack", inPlace := ["internal/bytealg.Compare"], unfollowed := true, recurses := true, apart := false, narrowed := true }
def SegmentBackUptoSaid : Prop := segmentBackUptoRow.holds Try.pinned (OpenSpec.upto segmentBackSpec)

/-- 'tidelinelaw07.SegmentBounds', WHERE WHAT IT READS IS OF BULK AT MOST 1048576: true; the input reads as it did. -/
def segmentBoundsUptoRow : OpenClaim := { program := "ythkpgjcnnfdibaa", sum := "3b8960ae4efb20020e9e2a642345a70e4b83a82cdeafcf41fea6f72526768153", func := "tideline/tidelinelaw07.SegmentBounds", spec := "segmentBounds", inPlace := ["internal/bytealg.Compare"], unfollowed := true, recurses := true, apart := false, narrowed := true }
def SegmentBoundsUptoSaid : Prop := segmentBoundsUptoRow.holds Try.pinned (OpenSpec.upto segmentBoundsSpec)

/-- 'tidelinelaw07.SegmentCuts', WHERE WHAT IT READS IS OF BULK AT MOST 1048576: true; the input reads as it did. -/
def segmentCutsUptoRow : OpenClaim := { program := "ythkpgjcnnfdibaa", sum := "3b8960ae4efb20020e9e2a642345a70e4b83a82cdeafcf41fea6f72526768153", func := "tideline/tidelinelaw07.SegmentCuts", spec := "segmentCuts", inPlace := ["internal/bytealg.Compare"], unfollowed := true, recurses := true, apart := false, narrowed := true }
def SegmentCutsUptoSaid : Prop := segmentCutsUptoRow.holds Try.pinned (OpenSpec.upto segmentCutsSpec)

/-- 'tidelinelaw07.SegmentKnown', WHERE WHAT IT READS IS OF BULK AT MOST 1048576: true; the input reads as it did. -/
def segmentKnownUptoRow : OpenClaim := { program := "ythkpgjcnnfdibaa", sum := "3b8960ae4efb20020e9e2a642345a70e4b83a82cdeafcf41fea6f72526768153", func := "tideline/tidelinelaw07.SegmentKnown", spec := "segmentKnown", inPlace := ["internal/bytealg.Compare"], unfollowed := true, recurses := true, apart := false, narrowed := true }
def SegmentKnownUptoSaid : Prop := segmentKnownUptoRow.holds Try.pinned (OpenSpec.upto segmentKnownSpec)

end Rows
end Go.Proofs.Ythkpgjcnnfdibaa

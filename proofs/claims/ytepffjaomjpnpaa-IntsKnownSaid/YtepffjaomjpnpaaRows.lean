/-
  No cell of these rows narrows 'for every input' (looked for: loops, veiled, ifaces, maps, wideKeys, modest, calm, conditions, laid).
  DERIVED. THE GIVEN ROWS OF THIS SEAT. 6 by the template 'for every input the law returns true; each argument reads behind the call as it read before'; 0 by the template 'total and deterministic' (their statements: YtepffjaomjpnpaaTotals.lean).
  GIVEN WITH THE SEED: the statements are not yours to turn. If you find one false, say at which input.
  Laid BY PROGRAM, IN A SANDBOX (cutbox-rows.mjs): the forced cells as the released guide's own fill.sh prints them over the translation eaba71ca75e61cb8… (all of the seat's roots in one cut). By AI agents, Wed Nov 11 2026. No macro, syntax, notation, axiom, sorry.
-/
import Derived.Test.YtepffjaomjpnpaaChecked
import GoSem.Claim
import GoSem.ClaimJoined
import GoSem.ClaimMapViews
import Derived.JoinedTies
import Derived.KernelRfl
namespace Go.Proofs.Ytepffjaomjpnpaa
/- THE CELL 'sum', in the pinned program and in every row, IS THE sha256 OF THE DUMP (.gsa) THAT YtepffjaomjpnpaaProg.lean LOADS. Nothing in Lean hashes anything: it is a label: what it is worth is what the hold of that sum in a sandbox is worth. -/
noncomputable def Try.pinned : Pinned := { name := "ytepffjaomjpnpaa", sum := "eaba71ca75e61cb812b441602b8451462516e6c34ae871c0395b738851496697", checked := Try.checked }
namespace Rows
def none {H : Type} : Left H := { results := [], args := [] }

/-- 'tidelinelaw05.IntsPuts': WHATEVER THE INPUT: true; the input reads as it did. -/
def intsPutsSpec : ChangeSpec := { name := "intsPuts", fn := fun _ => fun
  | [d] => { results := [.lit (.bool true)], args := [d] }
  | _ => none }
def intsPutsRow : OpenClaim := { program := "ytepffjaomjpnpaa", sum := "eaba71ca75e61cb812b441602b8451462516e6c34ae871c0395b738851496697", func := "tideline/tidelinelaw05.IntsPuts", spec := "intsPuts", unfollowed := true, recurses := true, apart := false }
def IntsPutsSaid : Prop := intsPutsRow.holds Try.pinned (OpenSpec.ofChange intsPutsSpec)

/-- ITS FALSE NEIGHBOUR: 'it returns false'. Refute it at one input. -/
def intsPutsWrong : ChangeSpec := { name := "intsPuts", fn := fun _ => fun
  | [d] => { results := [.lit (.bool false)], args := [d] }
  | _ => none }
def IntsPutsWrongFalsely : Prop := intsPutsRow.holds Try.pinned (OpenSpec.ofChange intsPutsWrong)

/-- 'tidelinelaw05.IntsGets': WHATEVER THE INPUT: true; the input reads as it did. -/
def intsGetsSpec : ChangeSpec := { name := "intsGets", fn := fun _ => fun
  | [d1, d2] => { results := [.lit (.bool true)], args := [d1, d2] }
  | _ => none }
def intsGetsRow : OpenClaim := { program := "ytepffjaomjpnpaa", sum := "eaba71ca75e61cb812b441602b8451462516e6c34ae871c0395b738851496697", func := "tideline/tidelinelaw05.IntsGets", spec := "intsGets", unfollowed := true, recurses := true, apart := false }
def IntsGetsSaid : Prop := intsGetsRow.holds Try.pinned (OpenSpec.ofChange intsGetsSpec)

/-- ITS FALSE NEIGHBOUR: 'it returns false'. Refute it at one input. -/
def intsGetsWrong : ChangeSpec := { name := "intsGets", fn := fun _ => fun
  | [d1, d2] => { results := [.lit (.bool false)], args := [d1, d2] }
  | _ => none }
def IntsGetsWrongFalsely : Prop := intsGetsRow.holds Try.pinned (OpenSpec.ofChange intsGetsWrong)

/-- 'tidelinelaw05.IntsBack': WHATEVER THE INPUT: true; the input reads as it did. -/
def intsBackSpec : ChangeSpec := { name := "intsBack", fn := fun _ => fun
  | [d1, d2, d3] => { results := [.lit (.bool true)], args := [d1, d2, d3] }
  | _ => none }
def intsBackRow : OpenClaim := { program := "ytepffjaomjpnpaa", sum := "eaba71ca75e61cb812b441602b8451462516e6c34ae871c0395b738851496697", func := "tideline/tidelinelaw05.IntsBack", spec := "intsBack", unfollowed := true, recurses := true, apart := false }
def IntsBackSaid : Prop := intsBackRow.holds Try.pinned (OpenSpec.ofChange intsBackSpec)

/-- ITS FALSE NEIGHBOUR: 'it returns false'. Refute it at one input. -/
def intsBackWrong : ChangeSpec := { name := "intsBack", fn := fun _ => fun
  | [d1, d2, d3] => { results := [.lit (.bool false)], args := [d1, d2, d3] }
  | _ => none }
def IntsBackWrongFalsely : Prop := intsBackRow.holds Try.pinned (OpenSpec.ofChange intsBackWrong)

/-- 'tidelinelaw05.IntsEven': WHATEVER THE INPUT: true; the input reads as it did. -/
def intsEvenSpec : ChangeSpec := { name := "intsEven", fn := fun _ => fun
  | [d1, d2, d3] => { results := [.lit (.bool true)], args := [d1, d2, d3] }
  | _ => none }
def intsEvenRow : OpenClaim := { program := "ytepffjaomjpnpaa", sum := "eaba71ca75e61cb812b441602b8451462516e6c34ae871c0395b738851496697", func := "tideline/tidelinelaw05.IntsEven", spec := "intsEven", unfollowed := true, recurses := true, apart := false }
def IntsEvenSaid : Prop := intsEvenRow.holds Try.pinned (OpenSpec.ofChange intsEvenSpec)

/-- ITS FALSE NEIGHBOUR: 'it returns false'. Refute it at one input. -/
def intsEvenWrong : ChangeSpec := { name := "intsEven", fn := fun _ => fun
  | [d1, d2, d3] => { results := [.lit (.bool false)], args := [d1, d2, d3] }
  | _ => none }
def IntsEvenWrongFalsely : Prop := intsEvenRow.holds Try.pinned (OpenSpec.ofChange intsEvenWrong)

/-- 'tidelinelaw05.IntsShift': WHATEVER THE INPUT: true; the input reads as it did. -/
def intsShiftSpec : ChangeSpec := { name := "intsShift", fn := fun _ => fun
  | [d1, d2] => { results := [.lit (.bool true)], args := [d1, d2] }
  | _ => none }
def intsShiftRow : OpenClaim := { program := "ytepffjaomjpnpaa", sum := "eaba71ca75e61cb812b441602b8451462516e6c34ae871c0395b738851496697", func := "tideline/tidelinelaw05.IntsShift", spec := "intsShift", unfollowed := true, recurses := true, apart := false }
def IntsShiftSaid : Prop := intsShiftRow.holds Try.pinned (OpenSpec.ofChange intsShiftSpec)

/-- ITS FALSE NEIGHBOUR: 'it returns false'. Refute it at one input. -/
def intsShiftWrong : ChangeSpec := { name := "intsShift", fn := fun _ => fun
  | [d1, d2] => { results := [.lit (.bool false)], args := [d1, d2] }
  | _ => none }
def IntsShiftWrongFalsely : Prop := intsShiftRow.holds Try.pinned (OpenSpec.ofChange intsShiftWrong)

/-- 'tidelinelaw05.IntsKnown': WHATEVER THE INPUT: true; the input reads as it did. -/
def intsKnownSpec : ChangeSpec := { name := "intsKnown", fn := fun _ => fun
  | [] => { results := [.lit (.bool true)], args := [] }
  | _ => none }
def intsKnownRow : OpenClaim := { program := "ytepffjaomjpnpaa", sum := "eaba71ca75e61cb812b441602b8451462516e6c34ae871c0395b738851496697", func := "tideline/tidelinelaw05.IntsKnown", spec := "intsKnown", unfollowed := true, recurses := true, apart := false }
def IntsKnownSaid : Prop := intsKnownRow.holds Try.pinned (OpenSpec.ofChange intsKnownSpec)

/-- ITS FALSE NEIGHBOUR: 'it returns false'. Refute it at one input. -/
def intsKnownWrong : ChangeSpec := { name := "intsKnown", fn := fun _ => fun
  | [] => { results := [.lit (.bool false)], args := [] }
  | _ => none }
def IntsKnownWrongFalsely : Prop := intsKnownRow.holds Try.pinned (OpenSpec.ofChange intsKnownWrong)

/- THE SECOND FORM. 'bulk': how many values and letters a reading holds, each counted each time it is reached (what is shared counts as often as it is met; a slice's spare places count too). A statement '..UptoSaid' is the law's where the arguments, and the package variables that the reading takes, are together of bulk at most 1048576: NARROWER than '..Said'. Prove '..Said' where nothing that the law and all that it calls make is longer than what came in: it says more and counts as full. Else prove '..UptoSaid'. A law counts once. -/
mutual
def uptoBulk {H : Type} : DataW H → Nat
  | .lit (.string bytes) => bytes.length + 1
  | .lit _ => 1
  | .nil => 1
  | .ptr d => uptoBulk d + 1
  | .slice elems spare => uptoBulkAll elems + uptoBulkAll spare + 1
  | .agg parts => uptoBulkAll parts + 1
  | .iface _ d => uptoBulk d + 1
  | .map entries => uptoBulkEntries entries + 1
  | .held _ => 1
def uptoBulkAll {H : Type} : List (DataW H) → Nat
  | [] => 0
  | d :: r => uptoBulk d + uptoBulkAll r
def uptoBulkEntries {H : Type} : List (Lit × DataW H) → Nat
  | [] => 0
  | x :: r => uptoBulkEntry x + uptoBulkEntries r
def uptoBulkEntry {H : Type} : Lit × DataW H → Nat
  | (.string bytes, d) => bytes.length + uptoBulk d + 1
  | (_, d) => uptoBulk d + 1
 end
def uptoSmall : (H : Type) → List (DataW H) → Bool := fun _ ds => decide (uptoBulkAll ds ≤ 1048576)
def OpenSpec.upto (s : _root_.Go.ChangeSpec) : _root_.Go.OpenSpec := { _root_.Go.OpenSpec.ofChange s with cond := some uptoSmall }

/-- 'tidelinelaw05.IntsPuts', WHERE WHAT IT READS IS OF BULK AT MOST 1048576: true; the input reads as it did. -/
def intsPutsUptoRow : OpenClaim := { program := "ytepffjaomjpnpaa", sum := "eaba71ca75e61cb812b441602b8451462516e6c34ae871c0395b738851496697", func := "tideline/tidelinelaw05.IntsPuts", spec := "intsPuts", unfollowed := true, recurses := true, apart := false, narrowed := true }
def IntsPutsUptoSaid : Prop := intsPutsUptoRow.holds Try.pinned (OpenSpec.upto intsPutsSpec)

/-- 'tidelinelaw05.IntsGets', WHERE WHAT IT READS IS OF BULK AT MOST 1048576: true; the input reads as it did. -/
def intsGetsUptoRow : OpenClaim := { program := "ytepffjaomjpnpaa", sum := "eaba71ca75e61cb812b441602b8451462516e6c34ae871c0395b738851496697", func := "tideline/tidelinelaw05.IntsGets", spec := "intsGets", unfollowed := true, recurses := true, apart := false, narrowed := true }
def IntsGetsUptoSaid : Prop := intsGetsUptoRow.holds Try.pinned (OpenSpec.upto intsGetsSpec)

/-- 'tidelinelaw05.IntsBack', WHERE WHAT IT READS IS OF BULK AT MOST 1048576: true; the input reads as it did. -/
def intsBackUptoRow : OpenClaim := { program := "ytepffjaomjpnpaa", sum := "eaba71ca75e61cb812b441602b8451462516e6c34ae871c0395b738851496697", func := "tideline/tidelinelaw05.IntsBack", spec := "intsBack", unfollowed := true, recurses := true, apart := false, narrowed := true }
def IntsBackUptoSaid : Prop := intsBackUptoRow.holds Try.pinned (OpenSpec.upto intsBackSpec)

/-- 'tidelinelaw05.IntsEven', WHERE WHAT IT READS IS OF BULK AT MOST 1048576: true; the input reads as it did. -/
def intsEvenUptoRow : OpenClaim := { program := "ytepffjaomjpnpaa", sum := "eaba71ca75e61cb812b441602b8451462516e6c34ae871c0395b738851496697", func := "tideline/tidelinelaw05.IntsEven", spec := "intsEven", unfollowed := true, recurses := true, apart := false, narrowed := true }
def IntsEvenUptoSaid : Prop := intsEvenUptoRow.holds Try.pinned (OpenSpec.upto intsEvenSpec)

/-- 'tidelinelaw05.IntsShift', WHERE WHAT IT READS IS OF BULK AT MOST 1048576: true; the input reads as it did. -/
def intsShiftUptoRow : OpenClaim := { program := "ytepffjaomjpnpaa", sum := "eaba71ca75e61cb812b441602b8451462516e6c34ae871c0395b738851496697", func := "tideline/tidelinelaw05.IntsShift", spec := "intsShift", unfollowed := true, recurses := true, apart := false, narrowed := true }
def IntsShiftUptoSaid : Prop := intsShiftUptoRow.holds Try.pinned (OpenSpec.upto intsShiftSpec)

/-- 'tidelinelaw05.IntsKnown', WHERE WHAT IT READS IS OF BULK AT MOST 1048576: true; the input reads as it did. -/
def intsKnownUptoRow : OpenClaim := { program := "ytepffjaomjpnpaa", sum := "eaba71ca75e61cb812b441602b8451462516e6c34ae871c0395b738851496697", func := "tideline/tidelinelaw05.IntsKnown", spec := "intsKnown", unfollowed := true, recurses := true, apart := false, narrowed := true }
def IntsKnownUptoSaid : Prop := intsKnownUptoRow.holds Try.pinned (OpenSpec.upto intsKnownSpec)

end Rows
end Go.Proofs.Ytepffjaomjpnpaa

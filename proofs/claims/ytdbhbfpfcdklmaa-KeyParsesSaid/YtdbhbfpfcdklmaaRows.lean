/-
  No cell of these rows narrows 'for every input' (looked for: loops, veiled, ifaces, maps, wideKeys, modest, calm, conditions, laid).
  DERIVED. THE GIVEN ROWS OF THIS SEAT. 6 by the template 'for every input the law returns true; each argument reads behind the call as it read before'; 0 by the template 'total and deterministic' (their statements: YtdbhbfpfcdklmaaTotals.lean).
  GIVEN WITH THE SEED: the statements are not yours to turn. If you find one false, say at which input.
  Laid BY PROGRAM, IN A SANDBOX (cutbox-rows.mjs): the forced cells as the released guide's own fill.sh prints them over the translation 6777f1ac83b9c3f2… (all of the seat's roots in one cut). By AI agents, Wed Nov 11 2026. No macro, syntax, notation, axiom, sorry.
-/
import Derived.Test.YtdbhbfpfcdklmaaChecked
import GoSem.Claim
import GoSem.ClaimJoined
import GoSem.ClaimMapViews
import Derived.JoinedTies
import Derived.KernelRfl
namespace Go.Proofs.Ytdbhbfpfcdklmaa
/- THE CELL 'sum', in the pinned program and in every row, IS THE sha256 OF THE DUMP (.gsa) THAT YtdbhbfpfcdklmaaProg.lean LOADS. Nothing in Lean hashes anything: it is a label: what it is worth is what the hold of that sum in a sandbox is worth. -/
noncomputable def Try.pinned : Pinned := { name := "ytdbhbfpfcdklmaa", sum := "6777f1ac83b9c3f211b83a5c0349b8b6ca0d55a5089b398e455add38e24896f8", checked := Try.checked }
namespace Rows
def none {H : Type} : Left H := { results := [], args := [] }

/-- 'tidelinelaw03.KeyAppends': WHATEVER THE INPUT: true; the input reads as it did. -/
def keyAppendsSpec : ChangeSpec := { name := "keyAppends", fn := fun _ => fun
  | [d1, d2] => { results := [.lit (.bool true)], args := [d1, d2] }
  | _ => none }
def keyAppendsRow : OpenClaim := { program := "ytdbhbfpfcdklmaa", sum := "6777f1ac83b9c3f211b83a5c0349b8b6ca0d55a5089b398e455add38e24896f8", func := "tideline/tidelinelaw03.KeyAppends", spec := "keyAppends", unfollowed := true, recurses := true, apart := false }
def KeyAppendsSaid : Prop := keyAppendsRow.holds Try.pinned (OpenSpec.ofChange keyAppendsSpec)

/-- ITS FALSE NEIGHBOUR: 'it returns false'. Refute it at one input. -/
def keyAppendsWrong : ChangeSpec := { name := "keyAppends", fn := fun _ => fun
  | [d1, d2] => { results := [.lit (.bool false)], args := [d1, d2] }
  | _ => none }
def KeyAppendsWrongFalsely : Prop := keyAppendsRow.holds Try.pinned (OpenSpec.ofChange keyAppendsWrong)

/-- 'tidelinelaw03.KeyOrders': WHATEVER THE INPUT: true; the input reads as it did. -/
def keyOrdersSpec : ChangeSpec := { name := "keyOrders", fn := fun _ => fun
  | [d1, d2] => { results := [.lit (.bool true)], args := [d1, d2] }
  | _ => none }
def keyOrdersRow : OpenClaim := { program := "ytdbhbfpfcdklmaa", sum := "6777f1ac83b9c3f211b83a5c0349b8b6ca0d55a5089b398e455add38e24896f8", func := "tideline/tidelinelaw03.KeyOrders", spec := "keyOrders", unfollowed := true, recurses := true, apart := false }
def KeyOrdersSaid : Prop := keyOrdersRow.holds Try.pinned (OpenSpec.ofChange keyOrdersSpec)

/-- ITS FALSE NEIGHBOUR: 'it returns false'. Refute it at one input. -/
def keyOrdersWrong : ChangeSpec := { name := "keyOrders", fn := fun _ => fun
  | [d1, d2] => { results := [.lit (.bool false)], args := [d1, d2] }
  | _ => none }
def KeyOrdersWrongFalsely : Prop := keyOrdersRow.holds Try.pinned (OpenSpec.ofChange keyOrdersWrong)

/-- 'tidelinelaw03.KeyBack': WHATEVER THE INPUT: true; the input reads as it did. -/
def keyBackSpec : ChangeSpec := { name := "keyBack", fn := fun _ => fun
  | [d1, d2] => { results := [.lit (.bool true)], args := [d1, d2] }
  | _ => none }
def keyBackRow : OpenClaim := { program := "ytdbhbfpfcdklmaa", sum := "6777f1ac83b9c3f211b83a5c0349b8b6ca0d55a5089b398e455add38e24896f8", func := "tideline/tidelinelaw03.KeyBack", spec := "keyBack", unfollowed := true, recurses := true, apart := false }
def KeyBackSaid : Prop := keyBackRow.holds Try.pinned (OpenSpec.ofChange keyBackSpec)

/-- ITS FALSE NEIGHBOUR: 'it returns false'. Refute it at one input. -/
def keyBackWrong : ChangeSpec := { name := "keyBack", fn := fun _ => fun
  | [d1, d2] => { results := [.lit (.bool false)], args := [d1, d2] }
  | _ => none }
def KeyBackWrongFalsely : Prop := keyBackRow.holds Try.pinned (OpenSpec.ofChange keyBackWrong)

/-- 'tidelinelaw03.KeyKnown': WHATEVER THE INPUT: true; the input reads as it did. -/
def keyKnownSpec : ChangeSpec := { name := "keyKnown", fn := fun _ => fun
  | [] => { results := [.lit (.bool true)], args := [] }
  | _ => none }
def keyKnownRow : OpenClaim := { program := "ytdbhbfpfcdklmaa", sum := "6777f1ac83b9c3f211b83a5c0349b8b6ca0d55a5089b398e455add38e24896f8", func := "tideline/tidelinelaw03.KeyKnown", spec := "keyKnown", unfollowed := true, recurses := true, apart := false }
def KeyKnownSaid : Prop := keyKnownRow.holds Try.pinned (OpenSpec.ofChange keyKnownSpec)

/-- ITS FALSE NEIGHBOUR: 'it returns false'. Refute it at one input. -/
def keyKnownWrong : ChangeSpec := { name := "keyKnown", fn := fun _ => fun
  | [] => { results := [.lit (.bool false)], args := [] }
  | _ => none }
def KeyKnownWrongFalsely : Prop := keyKnownRow.holds Try.pinned (OpenSpec.ofChange keyKnownWrong)

/-- 'tidelinelaw03.KeyParses': WHATEVER THE INPUT: true; the input reads as it did. -/
def keyParsesSpec : ChangeSpec := { name := "keyParses", fn := fun _ => fun
  | [d] => { results := [.lit (.bool true)], args := [d] }
  | _ => none }
def keyParsesRow : OpenClaim := { program := "ytdbhbfpfcdklmaa", sum := "6777f1ac83b9c3f211b83a5c0349b8b6ca0d55a5089b398e455add38e24896f8", func := "tideline/tidelinelaw03.KeyParses", spec := "keyParses", unfollowed := true, recurses := true, apart := false }
def KeyParsesSaid : Prop := keyParsesRow.holds Try.pinned (OpenSpec.ofChange keyParsesSpec)

/-- ITS FALSE NEIGHBOUR: 'it returns false'. Refute it at one input. -/
def keyParsesWrong : ChangeSpec := { name := "keyParses", fn := fun _ => fun
  | [d] => { results := [.lit (.bool false)], args := [d] }
  | _ => none }
def KeyParsesWrongFalsely : Prop := keyParsesRow.holds Try.pinned (OpenSpec.ofChange keyParsesWrong)

/-- 'tidelinelaw03.KeyPrefix': WHATEVER THE INPUT: true; the input reads as it did. -/
def keyPrefixSpec : ChangeSpec := { name := "keyPrefix", fn := fun _ => fun
  | [d1, d2] => { results := [.lit (.bool true)], args := [d1, d2] }
  | _ => none }
def keyPrefixRow : OpenClaim := { program := "ytdbhbfpfcdklmaa", sum := "6777f1ac83b9c3f211b83a5c0349b8b6ca0d55a5089b398e455add38e24896f8", func := "tideline/tidelinelaw03.KeyPrefix", spec := "keyPrefix", unfollowed := true, recurses := true, apart := false }
def KeyPrefixSaid : Prop := keyPrefixRow.holds Try.pinned (OpenSpec.ofChange keyPrefixSpec)

/-- ITS FALSE NEIGHBOUR: 'it returns false'. Refute it at one input. -/
def keyPrefixWrong : ChangeSpec := { name := "keyPrefix", fn := fun _ => fun
  | [d1, d2] => { results := [.lit (.bool false)], args := [d1, d2] }
  | _ => none }
def KeyPrefixWrongFalsely : Prop := keyPrefixRow.holds Try.pinned (OpenSpec.ofChange keyPrefixWrong)

/- THE SECOND FORM. 'bulk': how many values and letters a reading holds, each counted each time it is reached (what is shared counts as often as it is met; a slice's spare places count too). A statement '..UptoSaid' is the law's where the arguments, and the package variables that the reading takes, are together of bulk at most 1048576: NARROWER than '..Said'. Prove '..Said' where nothing that the law and all that it calls make is longer than what came in: it says more and counts as full. Else prove '..UptoSaid'. A law counts once. -/
mutual
def uptoBulk {H : Type} : DataW H → Nat
  | .lit (.string bytes) => bytes.length + 1
  | .lit _ => 1
  | .nil => 1
  | .ptr d => uptoBulk d + 1
  | .slice elems spare => uptoBulkAll elems + uptoBulkAll spare + 1
  | .agg parts => uptoBulkAll parts + 1
  | .iface _ d => uptoBulk d + 1
  | .map entries => uptoBulkEntries entries + 1
  | .held _ => 1
def uptoBulkAll {H : Type} : List (DataW H) → Nat
  | [] => 0
  | d :: r => uptoBulk d + uptoBulkAll r
def uptoBulkEntries {H : Type} : List (Lit × DataW H) → Nat
  | [] => 0
  | x :: r => uptoBulkEntry x + uptoBulkEntries r
def uptoBulkEntry {H : Type} : Lit × DataW H → Nat
  | (.string bytes, d) => bytes.length + uptoBulk d + 1
  | (_, d) => uptoBulk d + 1
 end
def uptoSmall : (H : Type) → List (DataW H) → Bool := fun _ ds => decide (uptoBulkAll ds ≤ 1048576)
def OpenSpec.upto (s : _root_.Go.ChangeSpec) : _root_.Go.OpenSpec := { _root_.Go.OpenSpec.ofChange s with cond := some uptoSmall }

/-- 'tidelinelaw03.KeyAppends', WHERE WHAT IT READS IS OF BULK AT MOST 1048576: true; the input reads as it did. -/
def keyAppendsUptoRow : OpenClaim := { program := "ytdbhbfpfcdklmaa", sum := "6777f1ac83b9c3f211b83a5c0349b8b6ca0d55a5089b398e455add38e24896f8", func := "tideline/tidelinelaw03.KeyAppends", spec := "keyAppends", unfollowed := true, recurses := true, apart := false, narrowed := true }
def KeyAppendsUptoSaid : Prop := keyAppendsUptoRow.holds Try.pinned (OpenSpec.upto keyAppendsSpec)

/-- 'tidelinelaw03.KeyOrders', WHERE WHAT IT READS IS OF BULK AT MOST 1048576: true; the input reads as it did. -/
def keyOrdersUptoRow : OpenClaim := { program := "ytdbhbfpfcdklmaa", sum := "6777f1ac83b9c3f211b83a5c0349b8b6ca0d55a5089b398e455add38e24896f8", func := "tideline/tidelinelaw03.KeyOrders", spec := "keyOrders", unfollowed := true, recurses := true, apart := false, narrowed := true }
def KeyOrdersUptoSaid : Prop := keyOrdersUptoRow.holds Try.pinned (OpenSpec.upto keyOrdersSpec)

/-- 'tidelinelaw03.KeyBack', WHERE WHAT IT READS IS OF BULK AT MOST 1048576: true; the input reads as it did. -/
def keyBackUptoRow : OpenClaim := { program := "ytdbhbfpfcdklmaa", sum := "6777f1ac83b9c3f211b83a5c0349b8b6ca0d55a5089b398e455add38e24896f8", func := "tideline/tidelinelaw03.KeyBack", spec := "keyBack", unfollowed := true, recurses := true, apart := false, narrowed := true }
def KeyBackUptoSaid : Prop := keyBackUptoRow.holds Try.pinned (OpenSpec.upto keyBackSpec)

/-- 'tidelinelaw03.KeyKnown', WHERE WHAT IT READS IS OF BULK AT MOST 1048576: true; the input reads as it did. -/
def keyKnownUptoRow : OpenClaim := { program := "ytdbhbfpfcdklmaa", sum := "6777f1ac83b9c3f211b83a5c0349b8b6ca0d55a5089b398e455add38e24896f8", func := "tideline/tidelinelaw03.KeyKnown", spec := "keyKnown", unfollowed := true, recurses := true, apart := false, narrowed := true }
def KeyKnownUptoSaid : Prop := keyKnownUptoRow.holds Try.pinned (OpenSpec.upto keyKnownSpec)

/-- 'tidelinelaw03.KeyParses', WHERE WHAT IT READS IS OF BULK AT MOST 1048576: true; the input reads as it did. -/
def keyParsesUptoRow : OpenClaim := { program := "ytdbhbfpfcdklmaa", sum := "6777f1ac83b9c3f211b83a5c0349b8b6ca0d55a5089b398e455add38e24896f8", func := "tideline/tidelinelaw03.KeyParses", spec := "keyParses", unfollowed := true, recurses := true, apart := false, narrowed := true }
def KeyParsesUptoSaid : Prop := keyParsesUptoRow.holds Try.pinned (OpenSpec.upto keyParsesSpec)

/-- 'tidelinelaw03.KeyPrefix', WHERE WHAT IT READS IS OF BULK AT MOST 1048576: true; the input reads as it did. -/
def keyPrefixUptoRow : OpenClaim := { program := "ytdbhbfpfcdklmaa", sum := "6777f1ac83b9c3f211b83a5c0349b8b6ca0d55a5089b398e455add38e24896f8", func := "tideline/tidelinelaw03.KeyPrefix", spec := "keyPrefix", unfollowed := true, recurses := true, apart := false, narrowed := true }
def KeyPrefixUptoSaid : Prop := keyPrefixUptoRow.holds Try.pinned (OpenSpec.upto keyPrefixSpec)

end Rows
end Go.Proofs.Ytdbhbfpfcdklmaa

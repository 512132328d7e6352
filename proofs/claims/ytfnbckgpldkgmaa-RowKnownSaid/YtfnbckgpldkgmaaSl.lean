/- Words on slices of bytes: 'b[lo:]' read as a list. No condition. -/
import Derived.Test.YtfnbckgpldkgmaaVarPut
namespace Go.Proofs.Ytfnbckgpldkgmaa
open Go.RowKit
set_option linter.unusedVariables false

/-- How long a slice is. -/
def lenOf : Value → Nat | .slice _ n _ => n | _ => 0

theorem run_from (A : Option Addr) (n c u : Nat) (hu : u ≤ n) (w : World) :
    (Instr.sliceAt 22 (.slice A n c) (some (.int .i64 (u : Int))) none none).run Try.prog w = .ok (.slice (if c = u then A else A.map (·.add u)) (n - u) (c - u)) w := by
  obtain ⟨i0, hi, hz0, hz1, hz2⟩ := info_parts Try.infoU8
  simp [Instr.sliceAt, Instr.slice, run_underlying Try.underlying22, Instr.sliceBounds, run_sliceBound, sizeOf, typeInfo, hi, hz1, (by omega : (0 : Int) ≤ (u : Int)), (by omega : (u : Int) ≤ (n : Int))]

section
variable {ops : Array Oper} {Q : Exit → Act → World → Prop} {rest : List Oper} {a : Act} {w : World} {ty : TypeId} {pos : String} {af : Array Edge}
theorem wpList_from (d x lo : Nat) {A : Option Addr} {n c : Nat} {z : Int} {B : Nat} (l : List UInt8) (u : Nat) (hx : a.eval (.tmp x) = .slice A n c) (hlo : a.eval (.tmp lo) = .int .i64 z) (hn : n = l.length) (hc : n ≤ c) (hz : z = u) (hu : u ≤ l.length)
    (hr : Rd w B A (cells l)) (h : ∀ (A' : Option Addr) (c' : Nat) (r : List UInt8), Hid (r = l.drop u) → Rd w B A' (cells r) → r.length ≤ c' → wpList Try.prog ops Q rest (a.put (some d) (.slice A' r.length c')) w) :
    wpList Try.prog ops Q ({ dst := some d, op := .slice 22 (.tmp x) (some (.tmp lo)) none none, type := ty, pos := pos, after := af, guard := none } :: rest) a w := by
  subst hn hz
  refine wpList_plain rfl fun K hK => ?_
  unfold Oper.wp execOp
  simp only [Option.map_some, Option.map_none, hx, hlo, Sem.run_bind, Sem.run_pure, Result.andThen_ok, run_from A l.length c u hu w]
  refine hK _ _ ?_
  have h1 := hr.cut u (c = u) (fun e => by simp; omega)
  have e1 : (l.drop u).length = l.length - u := List.length_drop
  have := h (if c = u then A else A.map (·.add u)) (c - u) (l.drop u) (Lib.hid rfl) (by unfold cells at *; rw [List.map_drop]; exact h1) (by omega)
  rw [e1] at this
  exact this
end
end Go.Proofs.Ytfnbckgpldkgmaa

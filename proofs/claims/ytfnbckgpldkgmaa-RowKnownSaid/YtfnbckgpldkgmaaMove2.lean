/- One move more of a walk through a region whose order is drawn: an operation that writes or makes memory, where it is the only one that may come up. Holds over any program. -/
import Derived.Test.YtfnbckgpldkgmaaMove
namespace Go.Proofs.Ytfnbckgpldkgmaa
open Go.RowKit
section
variable {P : Program} {l : List Oper} {Q : Exit → Act → World → Prop} {S : World → Prop}
theorem mv_step (i : Nat) {oi : Oper} {fuel : Nat} {L : Array Bool} {a : Act} {w : World} (hi : l[i]? = some oi)
    (hr : Region.ready .any l.toArray L = [i]) (hw : Region.wanted oi (yielded l.toArray a.tmps) = true)
    (h : ∀ K : Act → World → Prop, (∀ a' w', S w' → wpAnyH P .any l.toArray Q S fuel (L.setIfInBounds i true) a' w' → K a' w') → oi.wp P a w K Q) : wpAnyH P .any l.toArray Q S (fuel + 1) L a w := by
  have hi' : l.toArray[i]? = some oi := by simpa using hi
  refine wpAnyH_all hr (by simp) fun j hj => ?_
  have hji : j = i := by simpa using hj
  subst hji
  unfold wpOp
  simp only [hi', hw, if_true]
  refine .inl ?_
  exact h _ fun _ _ hs hh => ⟨hs, hh⟩
end
end Go.Proofs.Ytfnbckgpldkgmaa

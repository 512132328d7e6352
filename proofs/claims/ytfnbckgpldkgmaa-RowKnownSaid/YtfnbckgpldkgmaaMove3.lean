/- Moves of a walk through a region whose order is drawn, where two operations may come up next: both ways are walked. Holds over any program. -/
import Derived.Test.YtfnbckgpldkgmaaMove2
namespace Go.Proofs.Ytfnbckgpldkgmaa
open Go.RowKit
section
variable {P : Program} {l : List Oper} {Q : Exit → Act → World → Prop} {S : World → Prop}
theorem wpOp_of {ops : Array Oper} {i : Nat} {oi : Oper} {a : Act} {w : World} {K : Act → World → Prop} (hi : ops[i]? = some oi) (hw : Region.wanted oi (yielded ops a.tmps) = true) (h : oi.wp P a w K Q) : wpOp P ops Q i K a w := by
  unfold wpOp
  simp only [hi, hw, if_true]
  exact .inl h
theorem mv_two (i j : Nat) {oi oj : Oper} {fuel : Nat} {L : Array Bool} {a : Act} {w : World} (hi : l[i]? = some oi) (hj : l[j]? = some oj)
    (hr : Region.ready .any l.toArray L = [i, j]) (hwi : Region.wanted oi (yielded l.toArray a.tmps) = true) (hwj : Region.wanted oj (yielded l.toArray a.tmps) = true)
    (h1 : ∀ K : Act → World → Prop, (∀ a' w', S w' → wpAnyH P .any l.toArray Q S fuel (L.setIfInBounds i true) a' w' → K a' w') → oi.wp P a w K Q)
    (h2 : ∀ K : Act → World → Prop, (∀ a' w', S w' → wpAnyH P .any l.toArray Q S fuel (L.setIfInBounds j true) a' w' → K a' w') → oj.wp P a w K Q) : wpAnyH P .any l.toArray Q S (fuel + 1) L a w := by
  refine wpAnyH_all hr (by simp) fun k hk => ?_
  have hk' : k = i ∨ k = j := by simpa using hk
  rcases hk' with rfl | rfl
  · exact wpOp_of (by simpa using hi) hwi (h1 _ fun _ _ hs hh => ⟨hs, hh⟩)
  · exact wpOp_of (by simpa using hj) hwj (h2 _ fun _ _ hs hh => ⟨hs, hh⟩)
theorem wp_enter {oi : Oper} {f : FuncId} {args : Array Value} {a : Act} {w : World} {K : Act → World → Prop} {R : Act → World → Prop} (hK : ∀ a' w', S w' → R a' w' → K a' w') (hrun : (execOp a.eval oi).run P w = .ok (.enter f args) w)
    (hc : Calls P f args w fun e w' => ∃ v, e = .returned v ∧ S w' ∧ R (a.put oi.dst v) w') : oi.wp P a w K Q := by
  unfold Oper.wp
  rw [hrun]
  refine hc.mono fun e w' ⟨v, he, hs, h⟩ => ?_
  subst he
  exact hK _ _ hs h
end
end Go.Proofs.Ytfnbckgpldkgmaa

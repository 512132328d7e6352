/- The start and the moves of a walk through a region whose order is drawn. Holds over any program. -/
import Derived.Test.YtfnbckgpldkgmaaDrawn
import Derived.Deep.RegionHeld
namespace Go.Proofs.Ytfnbckgpldkgmaa
open Go.RowKit
section
variable {P : Program} {l : List Oper} {Q : Exit → Act → World → Prop} {S : World → Prop}
theorem ah_start {id : Nat} {ops : Array Oper} {a : Act} {w : World} (n : Nat) (S : World → Prop) (hn : ops.size = n) (hm : P.follows .mixedOrders = true) (hS : S w.drew)
    (h : S w.drew → wpAnyH P .any ops Q S n (Array.replicate n false) a w.drew) : (Code.region id ops true).wp P Q a w := by
  subst hn
  exact wp_region_held_drew hm hS h
theorem mv_skip (i : Nat) {oi : Oper} {fuel : Nat} {L : Array Bool} {a : Act} {w : World} (hi : l[i]? = some oi) (hs : Region.noSelect l.toArray = true) (hf : Region.free .any l.toArray L i = true)
    (hr : (Region.ready .any l.toArray L).contains i = true) (hQ : ∀ c a w, Q (.panic c) (a.put oi.dst undef) w → Q (.panic c) a w) (hw : Region.wanted oi (yielded l.toArray a.tmps) = false) (hS : S w)
    (h : wpAnyH P .any l.toArray Q S fuel (L.setIfInBounds i true) (a.put oi.dst undef) w) : wpAnyH P .any l.toArray Q S (fuel + 1) L a w :=
  ah_skip i (by simpa using hi) hs hf hr hQ hw hS h
theorem mv_val (i : Nat) {oi : Oper} {v : Value} {fuel : Nat} {L : Array Bool} {a : Act} {w : World} (hi : l[i]? = some oi) (hs : Region.noSelect l.toArray = true) (hf : Region.free .any l.toArray L i = true)
    (hr : (Region.ready .any l.toArray L).contains i = true) (hQ : ∀ c a w, Q (.panic c) (a.put oi.dst v) w → Q (.panic c) a w) (hw : Region.wanted oi (yielded l.toArray a.tmps) = true) (hS : S w)
    (hv : ∀ w, S w → (execOp a.eval oi).run P w = .ok (.value v) w)
    (h : wpAnyH P .any l.toArray Q S fuel (L.setIfInBounds i true) (a.put oi.dst v) w) : wpAnyH P .any l.toArray Q S (fuel + 1) L a w :=
  ah_val i (by simpa using hi) hs hf hr hQ hw hS hv h
theorem mv_call (i : Nat) {oi : Oper} {f : FuncId} {args : Array Value} {fuel : Nat} {L : Array Bool} {a : Act} {w : World} (hi : l[i]? = some oi)
    (hr : Region.ready .any l.toArray L = [i]) (hw : Region.wanted oi (yielded l.toArray a.tmps) = true) (hrun : (execOp a.eval oi).run P w = .ok (.enter f args) w)
    (hc : Calls P f args w fun e w' => ∃ v, e = .returned v ∧ S w' ∧ wpAnyH P .any l.toArray Q S fuel (L.setIfInBounds i true) (a.put oi.dst v) w') : wpAnyH P .any l.toArray Q S (fuel + 1) L a w :=
  ah_call i (by simpa using hi) hr hw hrun hc
end
end Go.Proofs.Ytfnbckgpldkgmaa

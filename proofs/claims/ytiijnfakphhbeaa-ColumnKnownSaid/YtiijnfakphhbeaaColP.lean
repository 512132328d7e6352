/- Plain functions of layer 6: a column's bytes, how they are read. No program in sight. -/
import Derived.Test.YtiijnfakphhbeaaKys
import Derived.Test.YtiijnfakphhbeaaJntP
namespace Go.Proofs.Ytiijnfakphhbeaa
open Go.RowKit
set_option linter.unusedVariables false

/-! ### bits -/
/-- the first k of the bits p, in m bytes -/
def bitsTo (m : Nat) (p : Nat → Bool) (k : Nat) : List UInt8 := layP m (fun i => decide (i < k) && p i)
/-- n bits -/
def bitsN (n : Nat) (p : Nat → Bool) : List UInt8 := bitsTo (size8 n) p n
theorem bitsTo_len (m : Nat) (p : Nat → Bool) (k : Nat) : (bitsTo m p k).length = m := layP_length _ _
theorem bitsTo_0 (m : Nat) (p : Nat → Bool) : bitsTo m p 0 = List.replicate m 0 := by
  unfold bitsTo
  rw [← layP_false]
  exact layP_congr fun i _ => by simp
theorem bitsTo_no {m k : Nat} {p : Nat → Bool} (h : p k = false) : bitsTo m p (k + 1) = bitsTo m p k := by
  unfold bitsTo
  refine layP_congr fun i _ => ?_
  by_cases hik : i = k
  · subst hik; simp [h]
  · congr 1
    exact decide_eq_decide.2 (by omega)
def byteTo (p : Nat → Bool) (k : Nat) : Nat := byteP (fun i => decide (i < k) && p i) (k / 8)
theorem byteTo_lt (p : Nat → Bool) (k : Nat) : byteTo p k < 256 := byteP_lt _ _
theorem bitsTo_get {m k : Nat} (p : Nat → Bool) (h : k < 8 * m) : (bitsTo m p k)[k / 8]? = some (byteTo p k).toUInt8 := by
  unfold bitsTo
  rw [layP_get _ (by omega)]; rfl
theorem bitsTo_yes {m k : Nat} {p : Nat → Bool} (h : p k = true) (hk : k < 8 * m) : bitsTo m p (k + 1) = (bitsTo m p k).set (k / 8) (byteTo p k ||| 2 ^ (k % 8)).toUInt8 := by
  unfold bitsTo byteTo
  rw [layP_set _ _ _ hk]
  refine layP_congr fun i _ => ?_
  by_cases hik : i = k
  · subst hik; simp [h]
  · have e : decide (i < k + 1) = decide (i < k) := decide_eq_decide.2 (by omega)
    simp [e, hik]
theorem byteTo_add {p : Nat → Bool} {k : Nat} : byteTo p k + 2 ^ (k % 8) = byteTo p k ||| 2 ^ (k % 8) ∧ byteTo p k + 2 ^ (k % 8) < 256 := by
  have hp : (fun i => decide (i < k) && p i) (8 * (k / 8) + k % 8) = false := by
    have : ¬ (8 * (k / 8) + k % 8 < k) := by omega
    simp [this]
  unfold byteTo
  rw [byteP_add _ _ _ (Nat.mod_lt _ (by omega)) hp, byteP_or _ _ _ (Nat.mod_lt _ (by omega))]
  exact ⟨rfl, byteP_lt _ _⟩
theorem bitsN_congr {n : Nat} {p q : Nat → Bool} (h : ∀ i, i < n → p i = q i) : bitsN n p = bitsN n q := by
  unfold bitsN bitsTo
  refine layP_congr fun i _ => ?_
  by_cases hi : i < n
  · rw [h i hi]
  · simp [hi]
theorem bitsN_len (n : Nat) (p : Nat → Bool) : (bitsN n p).length = size8 n := bitsTo_len _ _ _

/-! ### a column's bytes -/
def colok (t : UInt8) (l : List V) : Bool := tyok t && (decide (l.length ≤ 65536) && l.all (rmay t))
def marks (l : List V) : List V := l.filter fun v => !isNull v
def truthAt (l : List V) (i : Nat) : Bool := match l[i]? with | some v => decide (v.n = 1) | none => false
/-- texts, each once, in the order in which they come first -/
def addWord (ws : List (List UInt8)) (t : List UInt8) : List (List UInt8) := if t ∈ ws then ws else ws ++ [t]
def wordsF (ws : List (List UInt8)) (l : List V) : List (List UInt8) := l.foldl (fun ws v => addWord ws v.t) ws
def words (l : List V) : List (List UInt8) := wordsF [] l
def wbytes (w : List UInt8) : List UInt8 := vput w.length ++ w
def whichB (ws : List (List UInt8)) (t : List UInt8) : List UInt8 := vput (ws.idxOf t)
def tput (l : List V) : List UInt8 := vput (words l).length ++ ((words l).flatMap wbytes ++ l.flatMap fun v => whichB (words l) v.t)
def cbody (t : UInt8) (m : List V) : List UInt8 :=
  if t.toNat = 1 then bitsN m.length (truthAt m) else if t.toNat = 2 then In.iput (m.map V.n) else tput m
def cput (t : UInt8) (l : List V) : List UInt8 × Nat := if colok t l then (bitsN l.length (nullAt l) ++ cbody t (marks l), 0) else ([], 1)

/-! ### reading -/
/-- n bits that bytes begin with: the error -/
def tkE (b : List UInt8) (n : Nat) : Nat := if b.length < size8 n then 20 else if anyBit b n (8 * size8 n) then 21 else 0
/-- many words -/
def rwords : Nat → List (List UInt8) → List UInt8 → List (List UInt8) × List UInt8 × Nat
  | 0, ws, b => (ws, b, 0)
  | k + 1, ws, b =>
    if (vget b).2.2 ≠ 0 then ([], [], (vget b).2.2)
    else if b.length - (vget b).2.1 < (vget b).1 then ([], [], 20)
    else rwords k (ws ++ [(b.drop (vget b).2.1).take (vget b).1]) (b.drop ((vget b).2.1 + (vget b).1))
/-- n marks out of words -/
def rmarks (ws : List (List UInt8)) : Nat → List V → List UInt8 → List V × List UInt8 × Nat
  | 0, out, b => (out, b, 0)
  | k + 1, out, b =>
    if (vget b).2.2 ≠ 0 then ([], [], (vget b).2.2)
    else if ws.length ≤ (vget b).1 then ([], [], 21)
    else rmarks ws k (out ++ [⟨3, 0, (ws[(vget b).1]?).getD []⟩]) (b.drop (vget b).2.1)
def tget (b : List UInt8) (n : Nat) : List V × Nat :=
  if (vget b).2.2 ≠ 0 then ([], (vget b).2.2)
  else if n < (vget b).1 then ([], 21)
  else if (rwords (vget b).1 [] (b.drop (vget b).2.1)).2.2 ≠ 0 then ([], (rwords (vget b).1 [] (b.drop (vget b).2.1)).2.2)
  else if (rmarks (rwords (vget b).1 [] (b.drop (vget b).2.1)).1 n [] (rwords (vget b).1 [] (b.drop (vget b).2.1)).2.1).2.2 ≠ 0 then ([], (rmarks (rwords (vget b).1 [] (b.drop (vget b).2.1)).1 n [] (rwords (vget b).1 [] (b.drop (vget b).2.1)).2.1).2.2)
  else if tput (rmarks (rwords (vget b).1 [] (b.drop (vget b).2.1)).1 n [] (rwords (vget b).1 [] (b.drop (vget b).2.1)).2.1).1 = b then ((rmarks (rwords (vget b).1 [] (b.drop (vget b).2.1)).1 n [] (rwords (vget b).1 [] (b.drop (vget b).2.1)).2.1).1, 0)
  else ([], 21)
def truthsOf (b : List UInt8) (n : Nat) : List V := (List.range n).map fun i => ⟨1, if bitAt b i then 1 else 0, []⟩
def cread (t : UInt8) (b : List UInt8) (n : Nat) : List V × Nat :=
  if t.toNat = 1 then (if tkE b n ≠ 0 then ([], tkE b n) else if size8 n < b.length then ([], 21) else (truthsOf b n, 0))
  else if t.toNat = 2 then (if (In.iget b n).2 ≠ 0 then ([], (In.iget b n).2) else ((In.iget b n).1.map fun v => ⟨2, v, []⟩, 0))
  else tget b n
/-- the values behind their nulls -/
def merge (b : List UInt8) : Nat → Nat → List V → List V
  | _, 0, _ => []
  | i, k + 1, l => if bitAt b i then null :: merge b (i + 1) k l else (l.headD null) :: merge b (i + 1) k l.tail
/-- how many bits of n are not 1 -/
def zeros (b : List UInt8) (n : Nat) : Nat := ((List.range n).filter fun i => !bitAt b i).length
def cget (t : UInt8) (b : List UInt8) (n : Int) : List V × Nat :=
  if tyok t = false ∨ n < 0 ∨ 65536 < n then ([], 1)
  else if tkE b n.toNat ≠ 0 then ([], tkE b n.toNat)
  else if (cread t (b.drop (size8 n.toNat)) (zeros b n.toNat)).2 ≠ 0 then ([], (cread t (b.drop (size8 n.toNat)) (zeros b n.toNat)).2)
  else (merge b 0 n.toNat (cread t (b.drop (size8 n.toNat)) (zeros b n.toNat)).1, 0)
end Go.Proofs.Ytiijnfakphhbeaa

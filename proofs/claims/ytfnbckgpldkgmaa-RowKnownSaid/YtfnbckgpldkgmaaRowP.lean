/- Plain functions of layer 4: bits as bytes, a row's bytes, how they are read. No program in sight. -/
import Derived.Test.YtfnbckgpldkgmaaKeyP
namespace Go.Proofs.Ytfnbckgpldkgmaa
open Go.RowKit
set_option linter.unusedVariables false

/-! ### bits as bytes -/
def bw (b : Bool) (n : Nat) : Nat := if b then n else 0
/-- byte j of the bits p -/
def byteP (p : Nat → Bool) (j : Nat) : Nat :=
  bw (p (8 * j)) 1 + bw (p (8 * j + 1)) 2 + bw (p (8 * j + 2)) 4 + bw (p (8 * j + 3)) 8 + bw (p (8 * j + 4)) 16 + bw (p (8 * j + 5)) 32 + bw (p (8 * j + 6)) 64 + bw (p (8 * j + 7)) 128
/-- m bytes of the bits p -/
def layP (m : Nat) (p : Nat → Bool) : List UInt8 := (List.range m).map fun j => (byteP p j).toUInt8
theorem layP_length (m : Nat) (p : Nat → Bool) : (layP m p).length = m := by simp [layP]
theorem bw_le (b : Bool) (n : Nat) : bw b n ≤ n := by unfold bw; split <;> omega
theorem byteP_lt (p : Nat → Bool) (j : Nat) : byteP p j < 256 := by
  unfold byteP
  have h0 := bw_le (p (8 * j)) 1
  have h1 := bw_le (p (8 * j + 1)) 2
  have h2 := bw_le (p (8 * j + 2)) 4
  have h3 := bw_le (p (8 * j + 3)) 8
  have h4 := bw_le (p (8 * j + 4)) 16
  have h5 := bw_le (p (8 * j + 5)) 32
  have h6 := bw_le (p (8 * j + 6)) 64
  have h7 := bw_le (p (8 * j + 7)) 128
  omega
theorem layP_get {m j : Nat} (p : Nat → Bool) (h : j < m) : (layP m p)[j]? = some (byteP p j).toUInt8 := by
  simp [layP, List.getElem?_map, List.getElem?_range h]
theorem byteP_congr {p q : Nat → Bool} {j : Nat} (h : ∀ r, r < 8 → p (8 * j + r) = q (8 * j + r)) : byteP p j = byteP q j := by
  unfold byteP
  rw [show p (8 * j) = q (8 * j) from h 0 (by omega), h 1 (by omega), h 2 (by omega), h 3 (by omega), h 4 (by omega), h 5 (by omega), h 6 (by omega), h 7 (by omega)]
theorem layP_congr {m : Nat} {p q : Nat → Bool} (h : ∀ i, i < 8 * m → p i = q i) : layP m p = layP m q := by
  unfold layP
  refine List.map_congr_left fun j hj => ?_
  rw [List.mem_range] at hj
  rw [byteP_congr fun r hr => h (8 * j + r) (by omega)]
/-- bit i of bytes -/
def bitAt (b : List UInt8) (i : Nat) : Bool := decide ((b[i / 8]?.getD 0).toNat / 2 ^ (i % 8) % 2 = 1)
def byte8 (b0 b1 b2 b3 b4 b5 b6 b7 : Bool) : Nat := bw b0 1 + bw b1 2 + bw b2 4 + bw b3 8 + bw b4 16 + bw b5 32 + bw b6 64 + bw b7 128
theorem byte8_bits : ∀ b0 b1 b2 b3 b4 b5 b6 b7 : Bool, let x := byte8 b0 b1 b2 b3 b4 b5 b6 b7
    (decide (x / 1 % 2 = 1) = b0 ∧ decide (x / 2 % 2 = 1) = b1 ∧ decide (x / 4 % 2 = 1) = b2 ∧ decide (x / 8 % 2 = 1) = b3 ∧ decide (x / 16 % 2 = 1) = b4 ∧ decide (x / 32 % 2 = 1) = b5 ∧ decide (x / 64 % 2 = 1) = b6 ∧ decide (x / 128 % 2 = 1) = b7) := by decide +kernel
theorem byte8_or : ∀ b0 b1 b2 b3 b4 b5 b6 b7 : Bool, let x := byte8 b0 b1 b2 b3 b4 b5 b6 b7
    ((x ||| 1) = byte8 true b1 b2 b3 b4 b5 b6 b7 ∧ (x ||| 2) = byte8 b0 true b2 b3 b4 b5 b6 b7 ∧ (x ||| 4) = byte8 b0 b1 true b3 b4 b5 b6 b7 ∧ (x ||| 8) = byte8 b0 b1 b2 true b4 b5 b6 b7 ∧
     (x ||| 16) = byte8 b0 b1 b2 b3 true b5 b6 b7 ∧ (x ||| 32) = byte8 b0 b1 b2 b3 b4 true b6 b7 ∧ (x ||| 64) = byte8 b0 b1 b2 b3 b4 b5 true b7 ∧ (x ||| 128) = byte8 b0 b1 b2 b3 b4 b5 b6 true) := by decide +kernel
theorem byteP_8 (p : Nat → Bool) (j : Nat) : byteP p j = byte8 (p (8 * j)) (p (8 * j + 1)) (p (8 * j + 2)) (p (8 * j + 3)) (p (8 * j + 4)) (p (8 * j + 5)) (p (8 * j + 6)) (p (8 * j + 7)) := rfl
theorem byteP_bit (p : Nat → Bool) (j r : Nat) (hr : r < 8) : decide (byteP p j / 2 ^ r % 2 = 1) = p (8 * j + r) := by
  rw [byteP_8]
  obtain ⟨h0, h1, h2, h3, h4, h5, h6, h7⟩ := byte8_bits (p (8 * j)) (p (8 * j + 1)) (p (8 * j + 2)) (p (8 * j + 3)) (p (8 * j + 4)) (p (8 * j + 5)) (p (8 * j + 6)) (p (8 * j + 7))
  rcases (by omega : r = 0 ∨ r = 1 ∨ r = 2 ∨ r = 3 ∨ r = 4 ∨ r = 5 ∨ r = 6 ∨ r = 7) with rfl | rfl | rfl | rfl | rfl | rfl | rfl | rfl
  · exact h0
  · exact h1
  · exact h2
  · exact h3
  · exact h4
  · exact h5
  · exact h6
  · exact h7
theorem byteP_or (p : Nat → Bool) (j r : Nat) (hr : r < 8) : byteP p j ||| 2 ^ r = byteP (fun i => p i || decide (i = 8 * j + r)) j := by
  rw [byteP_8, byteP_8]
  obtain ⟨h0, h1, h2, h3, h4, h5, h6, h7⟩ := byte8_or (p (8 * j)) (p (8 * j + 1)) (p (8 * j + 2)) (p (8 * j + 3)) (p (8 * j + 4)) (p (8 * j + 5)) (p (8 * j + 6)) (p (8 * j + 7))
  have e : ∀ a, (8 * j + a = 8 * j) ↔ a = 0 := fun a => by omega
  have e' : ∀ a, (8 * j = 8 * j + a) ↔ a = 0 := fun a => by omega
  rcases (by omega : r = 0 ∨ r = 1 ∨ r = 2 ∨ r = 3 ∨ r = 4 ∨ r = 5 ∨ r = 6 ∨ r = 7) with rfl | rfl | rfl | rfl | rfl | rfl | rfl | rfl
  · refine h0.trans ?_; simp
  · refine h1.trans ?_; simp
  · refine h2.trans ?_; simp
  · refine h3.trans ?_; simp
  · refine h4.trans ?_; simp
  · refine h5.trans ?_; simp
  · refine h6.trans ?_; simp
  · refine h7.trans ?_; simp
theorem byteP_add (p : Nat → Bool) (j r : Nat) (hr : r < 8) (hp : p (8 * j + r) = false) : byteP p j + 2 ^ r = byteP (fun i => p i || decide (i = 8 * j + r)) j := by
  rcases (by omega : r = 0 ∨ r = 1 ∨ r = 2 ∨ r = 3 ∨ r = 4 ∨ r = 5 ∨ r = 6 ∨ r = 7) with rfl | rfl | rfl | rfl | rfl | rfl | rfl | rfl <;>
    (simp only [byteP, Nat.add_zero] at *; rw [hp]; simp [bw]; try omega)
theorem layP_bit (m : Nat) (p : Nat → Bool) (i : Nat) (h : i < 8 * m) : bitAt (layP m p) i = p i := by
  unfold bitAt
  rw [layP_get p (show i / 8 < m by omega), Option.getD_some, show ((byteP p (i / 8)).toUInt8).toNat = byteP p (i / 8) from toNat_toUInt8 (byteP_lt _ _), byteP_bit p _ _ (Nat.mod_lt _ (by omega))]
  congr 1; omega
/-- bit k set -/
theorem layP_set (m k : Nat) (p : Nat → Bool) (hk : k < 8 * m) : (layP m p).set (k / 8) (byteP p (k / 8) ||| 2 ^ (k % 8)).toUInt8 = layP m (fun i => p i || decide (i = k)) := by
  apply List.ext_getElem?
  intro j
  rcases Nat.lt_or_ge j m with hj | hj
  · rw [layP_get _ hj, List.getElem?_set]
    by_cases h : k / 8 = j
    · subst h
      rw [if_pos rfl, if_pos (by rw [layP_length]; exact hj), byteP_or p _ _ (Nat.mod_lt _ (by omega))]
      rw [show 8 * (k / 8) + k % 8 = k by omega]
    · rw [if_neg h, layP_get _ hj]
      congr 2
      refine byteP_congr fun r hr => ?_
      have : ¬ (8 * j + r = k) := by omega
      simp [this]
  · rw [List.getElem?_eq_none (by simp [layP_length]; exact hj), List.getElem?_eq_none (by rw [layP_length]; exact hj)]

/-! ### a row's bytes -/
def tyok (t : UInt8) : Bool := decide (t.toNat = 1) || decide (t.toNat = 2) || decide (t.toNat = 3)
def knownT (T : List UInt8) : Bool := T.all tyok
/-- is a value one of a type, or Null? -/
def rmay (t : UInt8) (v : V) : Bool := mayB v && (decide (v.k = 0) || decide (v.k = t.toNat))
def mays : List UInt8 → List V → Bool
  | t :: T, v :: l => rmay t v && mays T l
  | _, _ => true
/-- a value's bytes -/
def vone (v : V) : List UInt8 :=
  if v.k = 1 then [v.n.toNat.toUInt8]
  else if v.k = 2 then vput (zig v.n).toNat
  else if v.k = 3 then vput v.t.length ++ v.t
  else []
abbrev isNull (v : V) : Bool := decide (v.k = 0)
/-- null at i? -/
def nullAt (l : List V) (i : Nat) : Bool := match l[i]? with | some v => isNull v | none => false
def size8 (n : Nat) : Nat := (n + 7) / 8
def rbytes (l : List V) : List UInt8 := layP (size8 l.length) (nullAt l) ++ l.flatMap vone
def rowok (T : List UInt8) (l : List V) : Bool := decide (l.length = T.length) && mays T l
def rput (T : List UInt8) (l : List V) : List UInt8 × Nat := if knownT T && rowok T l then (rbytes l, 0) else ([], 1)

/-! ### reading -/
/-- a value of type t that bytes begin with, how many bytes, the error -/
def vread (t : UInt8) (b : List UInt8) : V × Nat × Nat :=
  if t.toNat = 1 then
    match b with
    | [] => (null, 0, 20)
    | c :: _ => if 1 < c.toNat then (null, 0, 21) else (⟨1, c.toNat, []⟩, 1, 0)
  else if (vget b).2.2 ≠ 0 then (null, 0, (vget b).2.2)
  else if t.toNat = 2 then (⟨2, zag (vget b).1, []⟩, (vget b).2.1, 0)
  else if b.length - (vget b).2.1 < (vget b).1 then (null, 0, 20)
  else (⟨3, 0, (b.drop (vget b).2.1).take (vget b).1⟩, (vget b).2.1 + (vget b).1, 0)
/-- values i and on, of types T -/
def rvals (b : List UInt8) : Nat → List UInt8 → List V → List UInt8 → List V × Nat
  | _, [], acc, rest => if rest = [] then (acc, 0) else ([], 21)
  | i, t :: T, acc, rest =>
    if bitAt b i then rvals b (i + 1) T (acc ++ [null]) rest
    else if (vread t rest).2.2 ≠ 0 then ([], (vread t rest).2.2)
    else rvals b (i + 1) T (acc ++ [(vread t rest).1]) (rest.drop (vread t rest).2.1)
/-- is a bit set, of i and on, below m? -/
def anyBit (b : List UInt8) (i m : Nat) : Bool := (List.range' i (m - i)).any (bitAt b)
def rget (T : List UInt8) (b : List UInt8) : List V × Nat :=
  if knownT T = false then ([], 1)
  else if b.length < size8 T.length then ([], 20)
  else if anyBit b T.length (8 * size8 T.length) then ([], 21)
  else rvals b 0 T [] (b.drop (size8 T.length))
end Go.Proofs.Ytfnbckgpldkgmaa

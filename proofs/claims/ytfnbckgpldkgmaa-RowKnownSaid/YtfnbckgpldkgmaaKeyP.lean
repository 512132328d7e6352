/- Plain functions of layer 3: which values may be, their bytes, how bytes are read. No program in sight. -/
import Derived.Test.YtfnbckgpldkgmaaVal
namespace Go.Proofs.Ytfnbckgpldkgmaa
open Go.RowKit
set_option linter.unusedVariables false

def mayB (v : V) : Bool :=
  if v.k = 0 then decide (v.n = 0) && decide (v.t = [])
  else if v.k = 1 then (decide (v.n = 0) || decide (v.n = 1)) && decide (v.t = [])
  else if v.k = 2 then decide (v.t = [])
  else if v.k = 3 then decide (v.n = 0)
  else false
/-- a text's bytes, each 0 followed by 255 -/
def esc : List UInt8 → List UInt8
  | [] => []
  | c :: t => if c = 0 then 0 :: 255 :: esc t else c :: esc t
/-- the eight bytes of a number, the highest first -/
def be : Nat → Nat → List UInt8
  | 0, _ => []
  | k + 1, u => (u / 256 ^ k % 256).toUInt8 :: be k u
def kone (v : V) : List UInt8 :=
  if v.k = 0 then [1]
  else if v.k = 1 then [2, v.n.toNat.toUInt8]
  else if v.k = 2 then 3 :: be 8 (v.n + 9223372036854775808).toNat
  else 4 :: (esc v.t ++ [0, 1])
/-- what Append answers: bytes and error -/
def kapp (b : List UInt8) (l : List V) : List UInt8 × Nat := if l.all mayB then (b ++ l.flatMap kone, 0) else ([], 1)

/-- a text's bytes read: the text, what is left, the error -/
def rtext : List UInt8 → List UInt8 → List UInt8 × List UInt8 × Nat
  | _, [] => ([], [], 20)
  | s, c :: r =>
    if c = 0 then
      match r with
      | [] => ([], [], 20)
      | d :: r' => if d = 1 then (s, r', 0) else if d = 255 then rtext (s ++ [0]) r' else ([], [], 21)
    else rtext (s ++ [c]) r
def num8 : Nat → List UInt8 → Nat
  | u, [] => u
  | u, c :: l => num8 (u * 256 + c.toNat) l
/-- a value read behind its first byte: the value, what is left, the error -/
def rone (c : UInt8) (r : List UInt8) : V × List UInt8 × Nat :=
  if c = 1 then (null, r, 0)
  else if c = 2 then
    match r with
    | [] => (null, [], 20)
    | d :: r' => if 1 < d.toNat then (null, [], 21) else (⟨1, d.toNat, []⟩, r', 0)
  else if c = 3 then
    if r.length < 8 then (null, [], 20) else (⟨2, (num8 0 (r.take 8) : Int) - 9223372036854775808, []⟩, r.drop 8, 0)
  else if c = 4 then
    if (rtext [] r).2.2 = 0 then (⟨3, 0, (rtext [] r).1⟩, (rtext [] r).2.1, 0) else (null, [], (rtext [] r).2.2)
  else (null, [], 21)
def kpF : Nat → List V → List UInt8 → List V × Nat
  | 0, _, _ => ([], 21)
  | _ + 1, acc, [] => (acc, 0)
  | f + 1, acc, c :: r => if (rone c r).2.2 = 0 then kpF f (acc ++ [(rone c r).1]) (rone c r).2.1 else ([], (rone c r).2.2)
def kp (acc : List V) (b : List UInt8) : List V × Nat := kpF (b.length + 1) acc b
def kparse (b : List UInt8) : List V × Nat := kp [] b
theorem xor_top {y : Nat} (hy : y < 9223372036854775808) : y ^^^ 9223372036854775808 = 9223372036854775808 + y := by
  have e : (9223372036854775808 : Nat) = 2 ^ 63 := by decide
  rw [e] at hy ⊢
  apply Nat.eq_of_testBit_eq
  intro i
  rw [Nat.testBit_xor]
  rcases Nat.lt_trichotomy i 63 with h | h | h
  · rw [Nat.testBit_two_pow_add_gt h, Nat.testBit_two_pow_of_ne (by omega)]; simp
  · subst h
    rw [Nat.testBit_two_pow_add_eq, Nat.testBit_two_pow_self, Nat.testBit_lt_two_pow hy]; rfl
  · have h2 : 2 ^ 63 + y < 2 ^ i := by
      have : 2 ^ 64 ≤ 2 ^ i := Nat.pow_le_pow_right (by omega) (by omega)
      omega
    rw [Nat.testBit_lt_two_pow h2, Nat.testBit_two_pow_of_ne (by omega), Nat.testBit_lt_two_pow (show y < 2 ^ i by omega)]; rfl
theorem xor_top2 {x : Nat} (h : 9223372036854775808 ≤ x) (hx : x < 18446744073709551616) : x ^^^ 9223372036854775808 = x - 9223372036854775808 := by
  obtain ⟨y, rfl⟩ : ∃ y, x = 9223372036854775808 + y := ⟨x - 9223372036854775808, by omega⟩
  rw [← xor_top (show y < 9223372036854775808 by omega), Nat.xor_assoc, Nat.xor_self, Nat.xor_zero, xor_top (by omega)]
  omega
theorem xor_i64 (n : Int) (h : -9223372036854775808 ≤ n ∧ n ≤ 9223372036854775807) : bits .xor .u64 (IntKind.u64.wrap n) 9223372036854775808 = (((n + 9223372036854775808).toNat : Nat) : Int) := by
  rw [IntKind.wrap_u64]
  rw [u64_xor _ _ (by omega) (by omega) (by omega) (by omega)]
  have e3 : (9223372036854775808 : Int).toNat = 9223372036854775808 := rfl
  rw [e3]
  congr 1
  rcases Int.lt_or_le n 0 with h0 | h0
  · rw [xor_top2 (by omega) (by omega)]; omega
  · rw [xor_top (by omega)]; omega
end Go.Proofs.Ytfnbckgpldkgmaa

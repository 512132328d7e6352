/- Plain laws of layer 6 on bits: which bytes are the bits that they hold. No program in sight. -/
import Derived.Test.YtiijnfakphhbeaaColP
namespace Go.Proofs.Ytiijnfakphhbeaa
open Go.RowKit
set_option linter.unusedVariables false

theorem byte8_all : ∀ x : Nat, x < 256 → x = byte8 (decide (x / 1 % 2 = 1)) (decide (x / 2 % 2 = 1)) (decide (x / 4 % 2 = 1)) (decide (x / 8 % 2 = 1)) (decide (x / 16 % 2 = 1)) (decide (x / 32 % 2 = 1)) (decide (x / 64 % 2 = 1)) (decide (x / 128 % 2 = 1)) := by decide +kernel
theorem layP_of (b : List UInt8) (m : Nat) (p : Nat → Bool) (hm : m ≤ b.length) (h : ∀ i, i < 8 * m → p i = bitAt b i) : layP m p = b.take m := by
  apply List.ext_getElem?
  intro j
  rcases Nat.lt_or_ge j m with hj | hj
  · rw [layP_get _ hj, List.getElem?_take, if_pos hj, List.getElem?_eq_getElem (by omega)]
    congr 1
    obtain ⟨x, hx⟩ : ∃ x, x = b[j]'(by omega) := ⟨_, rfl⟩
    rw [← hx]
    have hb : ∀ r, r < 8 → p (8 * j + r) = decide (x.toNat / 2 ^ r % 2 = 1) := fun r hr => by
      rw [h _ (by omega)]
      unfold bitAt
      rw [show (8 * j + r) / 8 = j by omega, show (8 * j + r) % 8 = r by omega, List.getElem?_eq_getElem (by omega), Option.getD_some, hx]
    rw [byteP_8]
    have e0 := hb 0 (by omega)
    rw [Nat.add_zero] at e0
    rw [e0, hb 1 (by omega), hb 2 (by omega), hb 3 (by omega), hb 4 (by omega), hb 5 (by omega), hb 6 (by omega), hb 7 (by omega)]
    have := byte8_all x.toNat x.toNat_lt
    show (byte8 (decide (x.toNat / 1 % 2 = 1)) (decide (x.toNat / 2 % 2 = 1)) (decide (x.toNat / 4 % 2 = 1)) (decide (x.toNat / 8 % 2 = 1)) (decide (x.toNat / 16 % 2 = 1)) (decide (x.toNat / 32 % 2 = 1)) (decide (x.toNat / 64 % 2 = 1)) (decide (x.toNat / 128 % 2 = 1))).toUInt8 = x
    rw [← this]
    simp
  · rw [List.getElem?_eq_none (by rw [layP_length]; exact hj), List.getElem?_eq_none (by rw [List.length_take]; omega)]
theorem anyBit_iff (b : List UInt8) (i m : Nat) : anyBit b i m = true ↔ ∃ q, i ≤ q ∧ q < m ∧ bitAt b q = true := by
  unfold anyBit
  rw [List.any_eq_true]
  constructor
  · rintro ⟨q, hq, h⟩
    rw [List.mem_range'_1] at hq
    exact ⟨q, hq.1, by omega, h⟩
  · rintro ⟨q, h1, h2, h⟩
    exact ⟨q, by rw [List.mem_range'_1]; omega, h⟩
theorem bitsN_bit (n : Nat) (p : Nat → Bool) (i : Nat) (hi : i < 8 * size8 n) : bitAt (bitsN n p) i = (decide (i < n) && p i) := layP_bit _ _ _ hi
/-- the bits of bytes, as bytes, are these bytes, just if no bit behind is set -/
theorem bits_eq {b : List UInt8} {n : Nat} (hb : size8 n ≤ b.length) : (bitsN n (bitAt b) = b.take (size8 n)) ↔ anyBit b n (8 * size8 n) = false := by
  constructor
  · intro h
    rw [← Bool.not_eq_true, anyBit_iff]
    rintro ⟨q, h1, h2, h3⟩
    have h4 := bitsN_bit n (bitAt b) q h2
    rw [h] at h4
    have h5 : bitAt (b.take (size8 n)) q = bitAt b q := by
      unfold bitAt
      rw [List.getElem?_take, if_pos (by omega)]
    rw [h5, h3] at h4
    simp at h4
    omega
  · intro h
    unfold bitsN bitsTo
    refine layP_of b (size8 n) _ hb fun i hi => ?_
    by_cases hin : i < n
    · simp [hin]
    · have h6 : bitAt b i = false := by
        rw [← Bool.not_eq_true]
        intro h7
        rw [← Bool.not_eq_true, anyBit_iff] at h
        exact h ⟨i, by omega, hi, h7⟩
      simp [hin, h6]
end Go.Proofs.Ytiijnfakphhbeaa

/- Joined texts: see the remark ahead of each part. No condition but those that the parts name. -/
import Derived.Test.YthkpgjcnnfdibaaBas
import Derived.Lib.Varint
import Derived.Laws.IdiomStrings
import Derived.Deep.Slices
import Derived.Deep.Fields
import Derived.ChangeSame
/-! Plain laws of layer 2: a number's bytes, and how they are read. No program in sight. -/
namespace Go.Proofs.Ythkpgjcnnfdibaa
/-- a number's bytes -/
def vput (x : Nat) : List UInt8 :=
  if x < 128 then [x.toUInt8] else (x % 128 + 128).toUInt8 :: vput (x / 128)
termination_by x
decreasing_by omega

theorem vput_small {x : Nat} (h : x < 128) : vput x = [x.toUInt8] := by rw [vput, if_pos h]
theorem vput_big {x : Nat} (h : 128 ≤ x) : vput x = (x % 128 + 128).toUInt8 :: vput (x / 128) := by rw [vput, if_neg (by omega)]
theorem vput_pos (x : Nat) : 1 ≤ (vput x).length := by
  rw [vput]; split <;> simp
theorem vput_length : ∀ (k x : Nat), x < 128 ^ (k + 1) → (vput x).length ≤ k + 1
  | 0, x, h => by rw [vput_small (by omega)]; simp
  | k + 1, x, h => by
    by_cases hx : x < 128
    · rw [vput_small hx]; simp
    · rw [vput_big (by omega)]
      have := vput_length k (x / 128) (by rw [Nat.pow_succ] at h; omega)
      simp; omega
theorem vput_length64 {x : Nat} (h : x < 18446744073709551616) : (vput x).length ≤ 10 :=
  vput_length 9 x (by omega)
/-- value, bytes, error -/
def vgetF : Nat → Nat → Nat → List UInt8 → Nat × Nat × Nat
  | 0, _, _, _ => (0, 0, 21)
  | _ + 1, _, _, [] => (0, 0, 20)
  | k + 1, i, acc, c :: l =>
    if i = 9 ∧ 1 < c.toNat then (0, 0, 21)
    else if c.toNat < 128 then (if c.toNat = 0 ∧ 0 < i then (0, 0, 21) else (acc + (c.toNat % 128) * 128 ^ i, i + 1, 0))
    else vgetF k (i + 1) (acc + (c.toNat % 128) * 128 ^ i) l
def vget (l : List UInt8) : Nat × Nat × Nat := vgetF 10 0 0 l

theorem toNat_toUInt8 {n : Nat} (h : n < 256) : n.toUInt8.toNat = n := by
  show (UInt8.ofNat n).toNat = n
  rw [UInt8.toNat_ofNat']; omega

/-- what is put is got, whatever stands behind -/
theorem vgetF_vput : ∀ (k i acc x : Nat) (l : List UInt8), i + k = 9 → x < 2 * 128 ^ k → (x = 0 → i = 0) →
    vgetF (k + 1) i acc (vput x ++ l) = (acc + x * 128 ^ i, i + (vput x).length, 0)
  | 0, i, acc, x, l, hi, hx, h0 => by
    have h9 : i = 9 := by omega
    subst h9
    have hx1 : x < 2 := by simpa using hx
    rw [vput_small (by omega)]
    simp only [List.cons_append, List.nil_append, vgetF, toNat_toUInt8 (show x < 256 by omega)]
    rw [if_neg (by omega), if_pos (by omega), if_neg (by omega), Nat.mod_eq_of_lt (by omega)]
    rfl
  | k + 1, i, acc, x, l, hi, hx, h0 => by
    by_cases h : x < 128
    · rw [vput_small h]
      simp only [List.cons_append, List.nil_append, vgetF, toNat_toUInt8 (show x < 256 by omega)]
      rw [if_neg (by omega), if_pos (by omega), if_neg (by omega), Nat.mod_eq_of_lt (by omega)]
      rfl
    · rw [vput_big (by omega)]
      simp only [List.cons_append, vgetF, toNat_toUInt8 (show x % 128 + 128 < 256 by omega)]
      rw [if_neg (by omega), if_neg (by omega), vgetF_vput k (i + 1) _ (x / 128) l (by omega) (by rw [Nat.pow_succ] at hx; omega) (by omega)]
      have e : (x % 128 + 128) % 128 = x % 128 := by omega
      rw [e]
      refine Prod.ext ?_ (Prod.ext (by simp; omega) rfl)
      show acc + x % 128 * 128 ^ i + x / 128 * 128 ^ (i + 1) = acc + x * 128 ^ i
      rw [Nat.pow_succ, Nat.mul_comm (128 ^ i) 128, ← Nat.mul_assoc, Nat.add_assoc, ← Nat.add_mul]
      congr 2; omega
theorem vget_vput {x : Nat} (h : x < 18446744073709551616) (l : List UInt8) : vget (vput x ++ l) = (x, (vput x).length, 0) := by
  have := vgetF_vput 9 0 0 x l rfl (by omega) (fun _ => rfl)
  simpa [vget] using this

/-- what is got is put as the same bytes -/
theorem vgetF_ok : ∀ (k i acc : Nat) (l : List UInt8) (v n : Nat), i + k = 10 → vgetF k i acc l = (v, n, 0) →
    ∃ x m, n = i + m ∧ 1 ≤ m ∧ m ≤ k ∧ m ≤ l.length ∧ v = acc + x * 128 ^ i ∧ vput x = l.take m ∧ x < 2 * 128 ^ (k - 1) ∧ (x = 0 → i = 0)
  | 0, i, acc, l, v, n, _, h => by simp [vgetF] at h
  | k + 1, i, acc, [], v, n, _, h => by simp [vgetF] at h
  | k + 1, i, acc, c :: l, v, n, hi, h => by
    have hc := c.toNat_lt
    have hcc : ∀ m : Nat, m = c.toNat → m.toUInt8 = c := by
      rintro m rfl; simp [Nat.toUInt8]
    simp only [vgetF] at h
    split at h
    · simp at h
    · rename_i h9
      split at h
      · rename_i h128
        split at h
        · simp at h
        · rename_i hz
          simp only [Prod.mk.injEq] at h
          obtain ⟨rfl, rfl, _⟩ := h
          refine ⟨c.toNat, 1, rfl, by omega, by omega, by simp, by rw [Nat.mod_eq_of_lt h128], ?_, ?_, by omega⟩
          · rw [vput_small h128, hcc _ rfl]; rfl
          · rcases Nat.eq_zero_or_pos k with rfl | hk
            · simp; omega
            · have : 128 ^ 1 ≤ 128 ^ k := Nat.pow_le_pow_right (by omega) hk
              simp; omega
      · rename_i h128
        obtain ⟨x, m, rfl, h1, h2, h3, rfl, h5, h6, h7⟩ := vgetF_ok k (i + 1) _ l v n (by omega) h
        have hk : k ≠ 0 := by omega
        obtain ⟨k, rfl⟩ := Nat.exists_eq_succ_of_ne_zero hk
        have hx : x ≠ 0 := fun h => by have := h7 h; omega
        refine ⟨c.toNat % 128 + x * 128, m + 1, by omega, by omega, by omega, by simp; omega, ?_, ?_, ?_, by omega⟩
        · rw [Nat.add_assoc, Nat.add_mul, Nat.pow_succ, Nat.mul_comm (128 ^ i) 128, Nat.mul_assoc]
        · rw [vput_big (by omega), List.take_succ_cons, ← h5, hcc _ (by omega)]
          congr 2; omega
        · simp only [Nat.succ_eq_add_one, Nat.add_sub_cancel] at h6 ⊢
          rw [Nat.pow_succ]; omega
theorem vget_ok {l : List UInt8} {v n : Nat} (h : vget l = (v, n, 0)) : 1 ≤ n ∧ n ≤ 10 ∧ n ≤ l.length ∧ vput v = l.take n ∧ v < 18446744073709551616 := by
  obtain ⟨x, m, hn, h1, h2, h3, hv, h5, h6, _⟩ := vgetF_ok 10 0 0 l v n rfl h
  simp at hn hv
  subst hn hv
  refine ⟨h1, h2, h3, h5, by omega⟩
/-- what else there may be -/
theorem vgetF_cases : ∀ (k i acc : Nat) (l : List UInt8), (vgetF k i acc l).2.2 = 0 ∨ vgetF k i acc l = (0, 0, 20) ∨ vgetF k i acc l = (0, 0, 21)
  | 0, i, acc, l => by simp [vgetF]
  | k + 1, i, acc, [] => by simp [vgetF]
  | k + 1, i, acc, c :: l => by
    simp only [vgetF]
    split
    · simp
    · split
      · split <;> simp
      · exact vgetF_cases k _ _ l
theorem vget_cases (l : List UInt8) : (vget l).2.2 = 0 ∨ vget l = (0, 0, 20) ∨ vget l = (0, 0, 21) := vgetF_cases 10 0 0 l
theorem vgetF_val : ∀ (k i acc : Nat) (l : List UInt8), i + k = 10 → acc < 128 ^ i → (vgetF k i acc l).1 < 18446744073709551616 ∧ (vgetF k i acc l).2.1 ≤ 10 ∧ (vgetF k i acc l).2.1 ≤ i + l.length
  | 0, i, acc, l, _, _ => by simp [vgetF]
  | k + 1, i, acc, [], _, _ => by simp [vgetF]
  | k + 1, i, acc, c :: l, hi, ha => by
    have hstep : acc + c.toNat % 128 * 128 ^ i < 128 ^ (i + 1) := by
      have : c.toNat % 128 * 128 ^ i ≤ 127 * 128 ^ i := Nat.mul_le_mul_right _ (by omega)
      rw [Nat.pow_succ]; omega
    simp only [vgetF]
    split
    · simp
    · split
      · split
        · simp
        · rename_i h9 h128 hz
          refine ⟨?_, by simp; omega, by simp⟩
          show acc + c.toNat % 128 * 128 ^ i < _
          by_cases h : i = 9
          · subst h
            have : c.toNat ≤ 1 := by omega
            have : c.toNat % 128 * 128 ^ 9 ≤ 1 * 128 ^ 9 := Nat.mul_le_mul_right _ (by omega)
            omega
          · have : 128 ^ (i + 1) ≤ 128 ^ 9 := Nat.pow_le_pow_right (by omega) (by omega)
            omega
      · have := vgetF_val k (i + 1) _ l (by omega) hstep
        simp only [List.length_cons]
        omega
theorem vget_val (l : List UInt8) : (vget l).1 < 18446744073709551616 ∧ (vget l).2.1 ≤ 10 ∧ (vget l).2.1 ≤ l.length := by
  have := vgetF_val 10 0 0 l rfl (by simp)
  simpa [vget] using this
/-- a part of a number's bytes is short -/
theorem vgetF_short : ∀ (k i acc x : Nat) (m : Nat), i + k = 9 → x < 2 * 128 ^ k → m < (vput x).length → vgetF (k + 1) i acc ((vput x).take m) = (0, 0, 20)
  | k, i, acc, x, 0, hi, hx, hm => by simp [vgetF]
  | 0, i, acc, x, m + 1, hi, hx, hm => by
    rw [vput_small (by omega)] at hm; simp at hm
  | k + 1, i, acc, x, m + 1, hi, hx, hm => by
    by_cases h : x < 128
    · rw [vput_small h] at hm; simp at hm
    · rw [vput_big (by omega)] at hm ⊢
      simp only [List.take_succ_cons, vgetF, toNat_toUInt8 (show x % 128 + 128 < 256 by omega)]
      rw [if_neg (by omega), if_neg (by omega)]
      exact vgetF_short k (i + 1) _ (x / 128) m (by omega) (by rw [Nat.pow_succ] at hx; omega) (by simp at hm; omega)
theorem vget_short {x m : Nat} (h : x < 18446744073709551616) (hm : m < (vput x).length) : vget ((vput x).take m) = (0, 0, 20) :=
  vgetF_short 9 0 0 x m rfl (by omega) hm
theorem vput_mono : ∀ (x y : Nat), x ≤ y → (vput x).length ≤ (vput y).length := by
  intro x
  induction x using Nat.strongRecOn with
  | _ x ih =>
    intro y h
    by_cases hx : x < 128
    · rw [vput_small hx]; exact vput_pos y
    · rw [vput_big (by omega), vput_big (show 128 ≤ y by omega)]
      have := ih (x / 128) (by omega) (y / 128) (by omega)
      simp; omega

/-! the reference's way -/
def vcnt : Nat → List UInt8 → Nat
  | 0, _ => 0
  | _ + 1, [] => 0
  | k + 1, c :: l => if 128 ≤ c.toNat then 1 + vcnt k l else 0
def vval : List UInt8 → Nat
  | [] => 0
  | c :: l => c.toNat % 128 + 128 * vval l
theorem vcnt_le : ∀ (k : Nat) (l : List UInt8), vcnt k l ≤ k ∧ vcnt k l ≤ l.length
  | 0, l => by simp [vcnt]
  | k + 1, [] => by simp [vcnt]
  | k + 1, c :: l => by
    have := vcnt_le k l
    simp only [vcnt]; split <;> simp <;> omega
theorem vgetF_ref : ∀ (k i acc : Nat) (l : List UInt8), i + k = 10 → 0 < k →
    vgetF k i acc l = if vcnt k l = l.length ∧ vcnt k l < k then (0, 0, 20)
      else if vcnt k l = k ∨ (i + vcnt k l = 9 ∧ 1 < (l.getD (vcnt k l) 0).toNat) ∨ (0 < i + vcnt k l ∧ (l.getD (vcnt k l) 0).toNat = 0) then (0, 0, 21)
      else (acc + vval (l.take (vcnt k l + 1)) * 128 ^ i, i + vcnt k l + 1, 0)
  | 0, _, _, _, _, h => by omega
  | k + 1, i, acc, [], hi, _ => by simp [vgetF, vcnt]
  | k + 1, i, acc, c :: l, hi, _ => by
    by_cases h : 128 ≤ c.toNat
    · have hcnt := vcnt_le k l
      have e : vcnt (k + 1) (c :: l) = vcnt k l + 1 := by simp [vcnt, h]; omega
      simp only [vgetF, e]
      by_cases h9 : i = 9
      · have hk : k = 0 := by omega
        subst hk
        rw [if_pos ⟨h9, by omega⟩, if_neg (by omega), if_pos (by omega)]
      · rw [if_neg (by omega), if_neg (by omega), vgetF_ref k (i + 1) _ l (by omega) (by omega)]
        simp only [List.length_cons, List.getD_cons_succ, List.take_succ_cons, vval]
        by_cases a : vcnt k l = l.length ∧ vcnt k l < k
        · rw [if_pos a, if_pos (by omega)]
        · rw [if_neg a, if_neg (show ¬ (vcnt k l + 1 = l.length + 1 ∧ vcnt k l + 1 < k + 1) by omega)]
          by_cases b : vcnt k l = k ∨ (i + 1 + vcnt k l = 9 ∧ 1 < (l.getD (vcnt k l) 0).toNat) ∨ (0 < i + 1 + vcnt k l ∧ (l.getD (vcnt k l) 0).toNat = 0)
          · rw [if_pos b, if_pos (by omega)]
          · rw [if_neg b, if_neg (show ¬ (vcnt k l + 1 = k + 1 ∨ (i + (vcnt k l + 1) = 9 ∧ 1 < (l.getD (vcnt k l) 0).toNat) ∨ (0 < i + (vcnt k l + 1) ∧ (l.getD (vcnt k l) 0).toNat = 0)) by omega)]
            refine Prod.ext ?_ (Prod.ext (by simp; omega) rfl)
            show acc + c.toNat % 128 * 128 ^ i + vval _ * 128 ^ (i + 1) = acc + (c.toNat % 128 + 128 * vval _) * 128 ^ i
            rw [Nat.pow_succ, Nat.mul_comm (128 ^ i) 128, ← Nat.mul_assoc, Nat.add_assoc, ← Nat.add_mul, Nat.mul_comm (vval _) 128]
    · have e : vcnt (k + 1) (c :: l) = 0 := by simp [vcnt, h]
      simp only [vgetF, e]
      simp only [List.length_cons, List.getD_cons_zero, List.take_succ_cons, List.take_zero, vval]
      by_cases h9 : i = 9 ∧ 1 < c.toNat
      · rw [if_pos h9, if_neg (show ¬ (0 = l.length + 1 ∧ 0 < k + 1) by omega), if_pos (by omega)]
      · rw [if_neg h9, if_pos (show c.toNat < 128 by omega), if_neg (show ¬ (0 = l.length + 1 ∧ 0 < k + 1) by omega)]
        by_cases hz : c.toNat = 0 ∧ 0 < i
        · rw [if_pos hz, if_pos (by omega)]
        · rw [if_neg hz, if_neg (show ¬ (0 = k + 1 ∨ i + 0 = 9 ∧ 1 < c.toNat ∨ 0 < i + 0 ∧ c.toNat = 0) by omega)]
          simp
theorem vget_ref (l : List UInt8) : vget l = if vcnt 10 l = l.length ∧ vcnt 10 l < 10 then (0, 0, 20)
      else if vcnt 10 l = 10 ∨ (vcnt 10 l = 9 ∧ 1 < (l.getD 9 0).toNat) ∨ (0 < vcnt 10 l ∧ (l.getD (vcnt 10 l) 0).toNat = 0) then (0, 0, 21)
      else (vval (l.take (vcnt 10 l + 1)), vcnt 10 l + 1, 0) := by
  have h := vgetF_ref 10 0 0 l rfl (by omega)
  unfold vget
  rw [h]
  have e : (vcnt 10 l = 9 ∧ 1 < (l.getD (vcnt 10 l) 0).toNat) = (vcnt 10 l = 9 ∧ 1 < (l.getD 9 0).toNat) := by
    refine propext ⟨fun ⟨a, b⟩ => ?_, fun ⟨a, b⟩ => ?_⟩
    · have a' : vcnt 10 l = 9 := by omega
      rw [a'] at b; exact ⟨a', b⟩
    · refine ⟨by omega, by rw [a]; exact b⟩
  simp only [Nat.zero_add, Nat.pow_zero, Nat.mul_one, e]
/-! zigzag -/
def zig (v : Int) : Int := if 0 ≤ v then 2 * v else -2 * v - 1
def zag (u : Int) : Int := if u % 2 = 0 then u / 2 else -(u / 2) - 1
theorem zag_zig (v : Int) : zag (zig v) = v := by unfold zag zig; split <;> split <;> omega
theorem zig_zag (u : Int) (h : 0 ≤ u) : zig (zag u) = u := by unfold zag zig; split <;> split <;> omega
theorem zig_bd (v : Int) (h : -9223372036854775808 ≤ v) (h' : v ≤ 9223372036854775807) : 0 ≤ zig v ∧ zig v < 18446744073709551616 := by unfold zig; split <;> omega
theorem zag_bd (u : Int) (h : 0 ≤ u) (h' : u < 18446744073709551616) : -9223372036854775808 ≤ zag u ∧ zag u ≤ 9223372036854775807 := by unfold zag; split <;> omega

theorem vget_mid (l : List UInt8) (k : Nat) (hk : vcnt 10 l = k) (hk10 : k < 10) (hkl : k < l.length) :
    vget l = if (k = 9 ∧ 1 < (l[k]).toNat) ∨ (0 < k ∧ (l[k]).toNat = 0) then (0, 0, 21) else (vval (l.take (k + 1)), k + 1, 0) := by
  rw [vget_ref, hk, if_neg (by omega)]
  have hgd : l.getD k 0 = l[k] := by simp [List.getD, hkl]
  rw [hgd]
  have h9 : (k = 9 ∧ 1 < (l.getD 9 0).toNat) ↔ (k = 9 ∧ 1 < (l[k]).toNat) := by
    constructor
    · rintro ⟨rfl, h⟩; rw [hgd] at h; exact ⟨rfl, h⟩
    · rintro ⟨rfl, h⟩; rw [hgd]; exact ⟨rfl, h⟩
  by_cases hc : (k = 9 ∧ 1 < (l[k]).toNat) ∨ (0 < k ∧ (l[k]).toNat = 0)
  · rw [if_pos hc, if_pos]
    rw [h9]; exact .inr hc
  · rw [if_neg hc, if_neg]
    rw [h9]
    rintro (h | h)
    · omega
    · exact hc h
theorem vval_le : ∀ (l : List UInt8) (j : Nat), vval (l.drop j) ≤ vval l
  | _, 0 => by simp
  | [], j + 1 => by simp
  | c :: l, j + 1 => by
    have := vval_le l j
    simp only [List.drop_succ_cons, vval]
    omega
theorem vval_drop (l : List UInt8) (j : Nat) (h : j < l.length) : vval (l.drop j) = (l[j]).toNat % 128 + 128 * vval (l.drop (j + 1)) := by
  rw [List.drop_eq_getElem_cons h]; rfl
end Go.Proofs.Ythkpgjcnnfdibaa

/-! The walks of package varint (layer 2): each function answers what the plain functions vput, vget, zig, zag say. -/
namespace Go.Proofs.Ythkpgjcnnfdibaa
open Go.RowKit

/-- a byte in memory -/
abbrev b8 (c : UInt8) : Value := .int .u8 (c.toNat : Int)
theorem Try.infoU8 : (Try.prog.info? 5).map (fun i => (i.zero, i.size, i.bytes)) = some (some (.int .u8 0), 1, 1) := by kernel_rfl

theorem xor_ones (x : Nat) (h : x < 18446744073709551616) : x ^^^ 18446744073709551615 = 18446744073709551615 - x := by
  have e : (BitVec.ofNat 64 x ^^^ BitVec.allOnes 64).toNat = (~~~ BitVec.ofNat 64 x).toNat := by rw [BitVec.xor_allOnes]
  rw [BitVec.toNat_xor, BitVec.toNat_not, BitVec.toNat_allOnes, BitVec.toNat_ofNat, Nat.mod_eq_of_lt (show x < 2 ^ 64 from h)] at e
  simpa using e
theorem ofInt_i64 (x : Int) (h : 0 ≤ x) (h' : x ≤ 9223372036854775807) : (BitVec.ofInt 64 x).toNat = x.toNat := by
  rw [BitVec.toNat_ofInt]
  omega
theorem xor_i64_zero (x : Int) (h : 0 ≤ x) (h' : x ≤ 9223372036854775807) : bits .xor .i64 x 0 = x := by
  show IntKind.i64.wrap ((BitVec.ofInt 64 x ^^^ BitVec.ofInt 64 0).toNat : Nat) = x
  rw [show (BitVec.ofInt 64 0) = 0#64 from rfl, BitVec.xor_zero, ofInt_i64 x h h', IntKind.wrap_i64]
  omega
theorem xor_i64_ones (x : Int) (h : 0 ≤ x) (h' : x ≤ 9223372036854775807) : bits .xor .i64 x (-1) = -x - 1 := by
  show IntKind.i64.wrap ((BitVec.ofInt 64 x ^^^ BitVec.ofInt 64 (-1)).toNat : Nat) = -x - 1
  rw [show (BitVec.ofInt 64 (-1)) = BitVec.allOnes 64 from rfl, BitVec.xor_allOnes, BitVec.toNat_not, ofInt_i64 x h h', IntKind.wrap_i64]
  omega

theorem zig_pos (v : Int) (h : 0 ≤ v) (h' : v ≤ 9223372036854775807) : bits .xor .u64 (v * 2) (v / 9223372036854775808) = 2 * v := by
  have e2 : v / 9223372036854775808 = 0 := by omega
  rw [e2, u64_xor (v * 2) 0 (by omega) (by omega) (by omega) (by omega)]
  simp; omega
theorem zig_neg (v : Int) (h : v < 0) (h' : -9223372036854775808 ≤ v) :
    bits .xor .u64 (IntKind.u64.wrap (IntKind.u64.wrap v * 2)) (IntKind.u64.wrap (v / 9223372036854775808)) = -2 * v - 1 := by
  have e1 : IntKind.u64.wrap (IntKind.u64.wrap v * 2) = 2 * v + 18446744073709551616 := by rw [IntKind.wrap_u64, IntKind.wrap_u64]; omega
  have e2 : IntKind.u64.wrap (v / 9223372036854775808) = 18446744073709551615 := by rw [IntKind.wrap_u64]; omega
  rw [e1, e2, u64_xor _ _ (by omega) (by omega) (by omega) (by omega)]
  have e3 : (18446744073709551615 : Int).toNat = 18446744073709551615 := rfl
  rw [e3, xor_ones _ (by omega)]
  omega
theorem Zig_any (v : Int) (h : -9223372036854775808 ≤ v) (h' : v ≤ 9223372036854775807) (w : World) :
    Calls Try.prog 75 #[.int .i64 v] w fun e w' => e = .returned (.int .u64 (zig v)) ∧ w = w' := by
  by_cases h0 : 0 ≤ v
  · have hz : zig v = 2 * v := if_pos h0
    rw [hz]
    clear hz
    go_enter Try.func75, Try.ntmps75
    go_wp2
    go_ret
    exact ⟨congrArg (fun x => Ending.returned (.int .u64 x)) (zig_pos v h0 h'), rfl⟩
  · have hz : zig v = -2 * v - 1 := if_neg h0
    rw [hz]
    have h1 : v < 0 := by omega
    clear hz h0
    go_enter Try.func75, Try.ntmps75
    go_wp2
    go_ret
    exact ⟨congrArg (fun x => Ending.returned (.int .u64 x)) (zig_neg v h1 h), rfl⟩
theorem zag_bits (u : Int) (h : 0 ≤ u) (h' : u < 18446744073709551616) : bits .xor .i64 (u / 2) (wrap64 (-wrap64 (bits .and .u64 u 1))) = zag u := by
  have e1 : bits .and .u64 u 1 = u % 2 := by
    rw [u64_and u 1 h h' (by omega) (by omega)]
    have : (1 : Int).toNat = 1 := rfl
    rw [this, nat_mask1]; omega
  rw [e1]
  unfold zag
  by_cases h0 : u % 2 = 0
  · rw [h0, if_pos rfl, show wrap64 (-wrap64 0) = 0 by simp [wrap64]]
    exact xor_i64_zero _ (by omega) (by omega)
  · have h1 : u % 2 = 1 := by omega
    rw [h1, if_neg (by omega), show wrap64 (-wrap64 1) = -1 by simp [wrap64]]
    exact xor_i64_ones _ (by omega) (by omega)
theorem Zag_any (u : Int) (h : 0 ≤ u) (h' : u < 18446744073709551616) (w : World) :
    Calls Try.prog 78 #[.int .u64 u] w fun e w' => e = .returned (.int .i64 (zag u)) ∧ w = w' := by
  go_enter Try.func78, Try.ntmps78
  go_wp2
  go_ret
  exact ⟨congrArg (fun x => Ending.returned (.int .i64 x)) (zag_bits u h h'), rfl⟩
theorem rZig_any (v : Int) (h : -9223372036854775808 ≤ v) (h' : v ≤ 9223372036854775807) (w : World) :
    Calls Try.prog 108 #[.int .i64 v] w fun e w' => e = .returned (.int .u64 (zig v)) ∧ w = w' := by
  by_cases h0 : 0 ≤ v
  · have hz : zig v = 2 * v := if_pos h0
    rw [hz]
    clear hz
    go_enter Try.func108, Try.ntmps108
    go_wp2
    go_ret
    exact ⟨by first | rfl | (congr 2; omega), rfl⟩
  · have hz : zig v = -2 * v - 1 := if_neg h0
    rw [hz]
    have h1 : v < 0 := by omega
    clear hz h0
    go_enter Try.func108, Try.ntmps108
    go_wp2
    go_ret
    exact ⟨congrArg (fun x => Ending.returned (.int .u64 x)) (by show _ = _; omega), rfl⟩
theorem rZag_any (u : Int) (h : 0 ≤ u) (h' : u < 18446744073709551616) (w : World) :
    Calls Try.prog 99 #[.int .u64 u] w fun e w' => e = .returned (.int .i64 (zag u)) ∧ w = w' := by
  by_cases h0 : u % 2 = 0
  · have hz : zag u = u / 2 := if_pos h0
    rw [hz]
    clear hz
    go_enter Try.func99, Try.ntmps99
    go_wp2
    go_ret
    exact ⟨rfl, rfl⟩
  · have hz : zag u = -(u / 2) - 1 := if_neg h0
    rw [hz]
    clear hz
    go_enter Try.func99, Try.ntmps99
    go_wp2
    go_ret
    exact ⟨rfl, rfl⟩
end Go.Proofs.Ythkpgjcnnfdibaa

/-! The walks of varint.Put and of the reference's Put (layer 2): what comes back are the bytes that were there, and behind them vput's, in new memory. -/
namespace Go.Proofs.Ythkpgjcnnfdibaa
open Go.RowKit

abbrev cells (l : List UInt8) : List Value := l.map b8
theorem cells_one (l : List UInt8) : ∀ u ∈ cells l, u.oneCell' = true := by
  intro u hu; obtain ⟨c, _, rfl⟩ := List.mem_map.1 hu; rfl
theorem cells_append (a b : List UInt8) : cells (a ++ b) = cells a ++ cells b := List.map_append
theorem cells_snoc (l : List UInt8) {a : Nat} (h : a < 256) : cells (l ++ [a.toUInt8]) = cells l ++ [Value.int .u8 (a : Int)] := by
  rw [cells_append]
  simp only [cells, List.map_cons, List.map_nil, b8, toNat_toUInt8 h]
theorem El_u8 : El Try.prog 22 5 1 1 := el_of Try.underlying22 Try.infoU8 rfl (by decide)

/-- What a call that answers bytes leaves: they lie in new memory, nothing that was there has turned. -/
def RetB (w : World) (l : List UInt8) (e : Ending) (w' : World) : Prop :=
  ∃ A c, e = .returned (.slice A l.length c) ∧ w'.ownsRow w.heap.size 5 1 (.slice A l.length c) l.length (cells l) ∧ Below w.heap.size w w'
theorem retB_of {w w' : World} {l : List UInt8} {v : Value} (h : w'.ownsRow w.heap.size 5 1 v l.length (cells l)) (hb : Below w.heap.size w w') : RetB w l (.returned v) w' := by
  obtain ⟨A, c, rfl, _⟩ := own_form h
  exact ⟨A, c, rfl, h, hb⟩

theorem one_int {k : IntKind} {a : Int} : ∀ u ∈ [Value.int k a], u.oneCell' = true := by
  intro u hu; simp at hu; subst hu; rfl

set_option maxHeartbeats 1000000 in
set_option maxRecDepth 100000 in
theorem Put_any (B : Nat) (A : Option Addr) (c : Nat) (l : List UInt8) (x : Nat) (hx : x < 18446744073709551616) (w : World) (h : Rd w B A (cells l)) (hl : l.length ≤ 4294967296) :
    Calls Try.prog 30 #[.slice A l.length c, .int .u64 x] w (RetB w (l ++ vput x)) := by
  have hlen := vput_length64 hx
  go_enter Try.func30, Try.ntmps30
  go_wp2_with (at_builtin; refine wpList_app El_u8 rfl _ _ rfl (World.ownsRow_nil w w.heap.size 5 1) rfl rfl h (by simp) (cells_one l) (by unfold maxLen; omega) (by omega) (Nat.le_refl _) ?_; intro v1 w1 hown1 hg1 _)
  have hb1 := own_below (World.ownsRow_nil w w.heap.size 5 1) hg1 (Nat.le_refl _)
  rw [Nat.zero_add, List.nil_append] at hown1
  go_loopw [1, 5] (fun vx vb wr => ∃ (y : Nat) (pre : List UInt8), vx = .int .u64 y ∧ y ≤ x ∧ vput x = pre ++ vput y ∧ wr.ownsRow w.heap.size 5 1 vb (l ++ pre).length (cells (l ++ pre)) ∧ Below w.heap.size w wr)
    (fun vx _ _ => (intOf vx).toNat)
  case atStart => exact ⟨x, [], rfl, Nat.le_refl _, rfl, by simpa using hown1, hb1⟩
  case round =>
    obtain ⟨y, pre, rfl, hy, hsplit, hown, hnx⟩ := hrel
    have hpl : pre.length + (vput y).length ≤ 10 := by
      have h2 := congrArg List.length hsplit
      rw [List.length_append] at h2
      omega
    have hyp := vput_pos y
    have hpl' : (l ++ pre).length = l.length + pre.length := List.length_append
    have HS := Lib.hid hsplit
    have HL := Lib.hid hpl'
    have hle : (l ++ pre).length ≤ l.length + 10 := by omega
    clear hsplit hpl' hown1 hb1 hg1
    by_cases h128 : 128 ≤ y
    · have hor : bits .or .u8 ((y : Int) % 256) 128 = ((y % 128 + 128 : Nat) : Int) := by
        rw [Lib.u8_or128_any _ (by omega) (by omega)]
        omega
      go_wp2_with (at_builtin; refine wpList_app El_u8 rfl _ _ rfl (hown.alloc _) rfl rfl (by exact rd_one _ _ _ _ _ rfl (Nat.lt_add_one _)) rfl one_int (by unfold maxLen; omega) (by omega) (by have := hnx.size; simp; omega) ?_; intro v2 w2 hown2 hg2 _)
      have hb2 : Below w.heap.size w w2 := (hnx.alloc hnx.size _).trans (own_below (hown.alloc _) hg2 (by have := hnx.size; simp; omega))
      go_roundw
      case rel =>
        refine ⟨y / 128, pre ++ [(y % 128 + 128).toUInt8], by go_num, by omega, by rw [HS.out, vput_big h128]; simp, ?_, hb2⟩
        rw [← List.append_assoc, cells_snoc _ (show y % 128 + 128 < 256 by omega), List.length_append (bs := [_]), List.length_singleton]
        simpa using hown2
      case measure => simp [intOf]; omega
    · have hsm : vput y = [y.toUInt8] := vput_small (by omega)
      go_wp2_with (at_builtin; refine wpList_app El_u8 rfl _ _ rfl (hown.alloc _) rfl rfl (by exact rd_one _ _ _ _ _ rfl (Nat.lt_add_one _)) rfl one_int (by unfold maxLen; omega) (by omega) (by have := hnx.size; simp; omega) ?_; intro v2 w2 hown2 hg2 _)
      have hb2 : Below w.heap.size w w2 := (hnx.alloc hnx.size _).trans (own_below (hown.alloc _) hg2 (by have := hnx.size; simp; omega))
      go_ret
      refine retB_of ?_ hb2
      rw [HS.out, hsm, ← List.append_assoc, cells_snoc _ (show y < 256 by omega), List.length_append (bs := [_]), List.length_singleton]
      simpa using hown2

set_option maxHeartbeats 1000000 in
set_option maxRecDepth 100000 in
theorem rPut_any (x : Nat) (hx : x < 18446744073709551616) (w : World) : Calls Try.prog 58 #[.int .u64 x] w (RetB w (vput x)) := by
  have hlen := vput_length64 hx
  go_enter Try.func58, Try.ntmps58
  go_wp2
  go_loopw [0, 3] (fun vx vb wr => ∃ (y : Nat) (pre : List UInt8), vx = .int .u64 y ∧ y ≤ x ∧ vput x = pre ++ vput y ∧ wr.ownsRow w.heap.size 5 1 vb pre.length (cells pre) ∧ Below w.heap.size w wr)
    (fun vx _ _ => (intOf vx).toNat)
  case atStart => exact ⟨x, [], rfl, Nat.le_refl _, rfl, World.ownsRow_nil _ _ _ _, Below.refl _ _⟩
  case round =>
    obtain ⟨y, pre, rfl, hy, hsplit, hown, hnx⟩ := hrel
    have hpl : pre.length + (vput y).length ≤ 10 := by
      have h2 := congrArg List.length hsplit
      rw [List.length_append] at h2
      omega
    have hyp := vput_pos y
    have HS := Lib.hid hsplit
    clear hsplit
    by_cases h128 : 128 ≤ y
    · have hd : ((y : Int) / 128 == 0) = false := by simp; omega
      go_wp2_with (at_builtin; refine wpList_app El_u8 rfl _ _ rfl (hown.alloc _) rfl rfl (by exact rd_one _ _ _ _ _ rfl (Nat.lt_add_one _)) rfl one_int (by unfold maxLen; omega) (by omega) (by have := hnx.size; simp; omega) ?_; intro v2 w2 hown2 hg2 _)
      have hb2 : Below w.heap.size w w2 := (hnx.alloc hnx.size _).trans (own_below (hown.alloc _) hg2 (by have := hnx.size; simp; omega))
      go_roundw
      case rel =>
        refine ⟨y / 128, pre ++ [(y % 128 + 128).toUInt8], by go_num, by omega, by rw [HS.out, vput_big h128]; simp, ?_, hb2⟩
        rw [cells_snoc _ (show y % 128 + 128 < 256 by omega), List.length_append (bs := [_]), List.length_singleton]
        simpa using hown2
      case measure => simp [intOf]; omega
    · have hd : ((y : Int) / 128 == 0) = true := by simp; omega
      have hsm : vput y = [y.toUInt8] := vput_small (by omega)
      have hm : (y : Int) % 128 = y := by omega
      go_wp2_with (at_builtin; refine wpList_app El_u8 rfl _ _ rfl (hown.alloc _) rfl rfl (by exact rd_one _ _ _ _ _ rfl (Nat.lt_add_one _)) rfl one_int (by unfold maxLen; omega) (by omega) (by have := hnx.size; simp; omega) ?_; intro v2 w2 hown2 hg2 _)
      have hb2 : Below w.heap.size w w2 := (hnx.alloc hnx.size _).trans (own_below (hown.alloc _) hg2 (by have := hnx.size; simp; omega))
      go_ret
      refine retB_of ?_ hb2
      rw [HS.out, hsm, cells_snoc _ (show y < 256 by omega), List.length_append (bs := [_]), List.length_singleton]
      simpa using hown2

/-- string(b) of bytes that lie in memory -/
theorem conv_rd {w : World} {B : Nat} {A : Option Addr} {l : List UInt8} (h : Rd w B A (cells l)) (c : Nat) :
    (convert 22 9 (.slice A l.length c)).run Try.prog w = .ok (.string ⟨l.toArray⟩) w := by
  rw [run_convert_bytes_string w 22 9 5 A _ c Try.underlying22 Try.underlying5 Try.underlying9]
  have hfin : (ByteArray.empty.data ++ ((l.map fun c => (c.toNat : Int)).map fun n => UInt8.ofNat n.toNat).toArray) = l.toArray := by
    have e : ∀ l : List UInt8, (l.map fun c => (c.toNat : Int)).map (fun n => UInt8.ofNat n.toNat) = l := fun l => by
      rw [List.map_map]; conv => rhs; rw [← List.map_id l]
      exact List.map_congr_left fun c _ => by simp
    rw [e]
    simp [ByteArray.empty, ByteArray.emptyWithCapacity]
    rfl
  rcases A with _ | ad
  · rcases h with h | ⟨b, o, h, _⟩
    · have : l = [] := by simpa using h
      subst this
      simp [Conv.bytesToString]
      rfl
    · cases h
  · have hl : (loadCells ad l.length).run Try.prog w = .ok ((l.map fun c => (c.toNat : Int)).map (Value.int .u8)).toArray w := by
      have := run_loadCells_list (P := Try.prog) w ad ((l.map fun c => (c.toNat : Int)).map (Value.int .u8)) (fun j v hj => by
        rcases h with h | ⟨b, o, h, _, hc⟩
        · have : l = [] := by simpa using h
          subst this; simp at hj
        · cases h
          have e : (⟨b, o, none⟩ : Addr).add j = ⟨b, o + j, none⟩ := by unfold Addr.add; split <;> simp_all
          rw [e]
          exact hc j v (by rw [← hj, List.map_map]; rfl))
      simpa using this
    rw [run_bytesToString w ad l.length c _ hl, foldl_push_bytes, hfin]
/-- the same of what a call has made -/
theorem conv_own {w : World} {base n c : Nat} {A : Option Addr} {l : List UInt8} (h : w.ownsRow base 5 1 (.slice A n c) n (cells l)) :
    (convert 22 9 (.slice A n c)).run Try.prog w = .ok (.string ⟨l.toArray⟩) w := by
  have hn : n = l.length := by have := h.1; simpa using this.symm
  subst hn
  exact conv_rd (rd_own h) c
end Go.Proofs.Ythkpgjcnnfdibaa

/-! The walks of varint.Get and of the reference's Get (layer 2): both answer vget. -/
namespace Go.Proofs.Ythkpgjcnnfdibaa
open Go.RowKit

/-- what vget answers, as Go's three results -/
abbrev tri (t : Nat × Nat × Nat) : Value := .tuple #[.int .u64 (t.1 : Int), .int .i64 (t.2.1 : Int), .int .i64 (t.2.2 : Int)]

theorem rd_cell {w : World} {B : Nat} {A : Option Addr} {l : List UInt8} (h : Rd w B A (cells l)) {k : Nat} (hk : k < l.length) : ∃ b o, A = some ⟨b, o, none⟩ ∧ b < B ∧ ∀ j (hj : j < l.length), w.cell? ⟨b, o + j, none⟩ = some (.int .u8 (l[j].toNat : Int)) := by
  obtain ⟨b, o, hA, hb, hc⟩ := h.at (k := k) (by simpa using hk)
  exact ⟨b, o, hA, hb, fun j hj => hc j _ (by simp [hj])⟩

theorem or_step {acc k x : Nat} (hk : k ≤ 9) (hacc : acc < 128 ^ k) (hx : x < 128) (h9 : k = 9 → x ≤ 1) :
    bits .or .u64 (acc : Int) (IntKind.u64.wrap ((x : Int) * 2 ^ (7 * k))) = ((acc + x * 128 ^ k : Nat) : Int) := by
  have e : (2 : Int) ^ (7 * k) = ((128 ^ k : Nat) : Int) := by
    have : (2 : Int) ^ (7 * k) = ((2 ^ (7 * k) : Nat) : Int) := by simp
    rw [this, Nat.pow_mul]
  have hp : 128 ^ k ≤ 128 ^ 9 := Nat.pow_le_pow_right (by omega) hk
  have hv : x * 128 ^ k < 18446744073709551616 := by
    by_cases h : k = 9
    · subst h
      have : x * 128 ^ 9 ≤ 1 * 128 ^ 9 := Nat.mul_le_mul_right _ (h9 rfl)
      omega
    · have h8 : 128 ^ k ≤ 128 ^ 8 := Nat.pow_le_pow_right (by omega) (by omega)
      have : x * 128 ^ k ≤ 127 * 128 ^ 8 := Nat.mul_le_mul (by omega) h8
      omega
  rw [e, IntKind.wrap_u64, ← Int.natCast_mul, show (((x * 128 ^ k : Nat) : Int) % 18446744073709551616) = ((x * 128 ^ k : Nat) : Int) by omega, u64_or_nat _ _ (by omega) hv]
  congr 1
  rw [Nat.or_comm, Nat.add_comm]
  have e2 : (128 : Nat) ^ k = 2 ^ (7 * k) := by rw [Nat.pow_mul]
  rw [e2]
  rw [e2] at hacc
  exact nat_join (7 * k) _ _ (by simp) hacc

theorem acc_step {acc k x : Nat} (hacc : acc < 128 ^ k) (hx : x < 128) : acc + x * 128 ^ k < 128 ^ (k + 1) := by
  have : x * 128 ^ k ≤ 127 * 128 ^ k := Nat.mul_le_mul_right _ (by omega)
  rw [Nat.pow_succ]; omega

set_option maxHeartbeats 1000000 in
set_option maxRecDepth 100000 in
theorem Get_any (B : Nat) (A : Option Addr) (c : Nat) (l : List UInt8) (w : World) (h : Rd w B A (cells l)) (hl : l.length ≤ 4294967296) :
    Calls Try.prog 77 #[.slice A l.length c] w fun e w' => e = .returned (tri (vget l)) ∧ w = w' := by
  go_enter Try.func77, Try.ntmps77
  go_wp2
  go_loop [5, 8] (fun vv vi => ∃ (k acc : Nat), k ≤ 10 ∧ k ≤ l.length ∧ vi = .int .i64 k ∧ vv = .int .u64 acc ∧ acc < 128 ^ k ∧ vget l = vgetF (10 - k) k acc (l.drop k))
    (fun _ vi => (10 - intOf vi).toNat)
  case atStart => exact ⟨0, 0, by omega, by omega, rfl, rfl, by simp, rfl⟩
  case round =>
    obtain ⟨k, acc, hk, hkll, rfl, rfl, hacc, hget⟩ := hrel
    have HG := Lib.hid hget
    clear hget
    by_cases hk10 : k < 10
    · by_cases hkl : k < l.length
      · obtain ⟨b, o, rfl, hb, hc⟩ := rd_cell h hkl
        have hck := hc k hkl
        clear hc
        obtain ⟨x, hx⟩ : ∃ x, x = l[k] := ⟨_, rfl⟩
        rw [← hx] at hck
        have hX := Lib.hid hx
        clear hx
        have hx256 : x.toNat < 256 := x.toNat_lt
        have hand : bits .and .u8 (x.toNat : Int) 127 = ((x.toNat % 128 : Nat) : Int) := by
          rw [u8_and _ _ (by omega) (by omega) (by omega) (by omega)]
          have : (127 : Int).toNat = 127 := rfl
          rw [this, Int.toNat_natCast, nat_mask7]
        have hdrop : l.drop k = x :: l.drop (k + 1) := by rw [hX.out]; exact List.drop_eq_getElem_cons hkl
        obtain ⟨f, hf⟩ : ∃ f, 10 - k = f + 1 := ⟨9 - k, by omega⟩
        have hstep0 : (vget l = if k = 9 ∧ 1 < x.toNat then (0, 0, 21)
            else if x.toNat < 128 then (if x.toNat = 0 ∧ 0 < k then (0, 0, 21) else (acc + (x.toNat % 128) * 128 ^ k, k + 1, 0))
            else vgetF (10 - (k + 1)) (k + 1) (acc + (x.toNat % 128) * 128 ^ k) (l.drop (k + 1))) := by
          rw [HG.out, hdrop, hf, show 10 - (k + 1) = f by omega]
          simp only [vgetF]
        have hstep := Lib.hid hstep0
        clear hstep0 hdrop hf HG
        by_cases h9 : k = 9 ∧ 1 < x.toNat
        · obtain ⟨h9a, h9b⟩ := h9
          have hk9 : ((k : Int) == 9) = true := by simp; omega
          have hs : Hid (vget l = (0, 0, 21)) := by rw [hstep.out, if_pos ⟨h9a, h9b⟩]; rfl
          clear hstep h9a
          go_wp2
          go_ret3
          exact ⟨by rw [hs.out]; rfl, rfl⟩
        · have hstep2 : Hid (vget l = if x.toNat < 128 then (if x.toNat = 0 ∧ 0 < k then (0, 0, 21) else (acc + (x.toNat % 128) * 128 ^ k, k + 1, 0))
            else vgetF (10 - (k + 1)) (k + 1) (acc + (x.toNat % 128) * 128 ^ k) (l.drop (k + 1))) := by
            have := hstep.out
            rw [if_neg h9] at this; exact this
          clear hstep
          have hor := Lib.hid (or_step (acc := acc) (k := k) (x := x.toNat % 128) (by omega) hacc (by omega) (by omega))
          have hac := acc_step (k := k) (x := x.toNat % 128) hacc (by omega)
          have hk9 : (((k : Int) == 9) = false) ∨ (((k : Int) == 9) = true ∧ x.toNat ≤ 1) := by
            by_cases h : k = 9
            · exact .inr ⟨by simp; omega, by omega⟩
            · exact .inl (by simp; omega)
          clear h9
          by_cases h128 : x.toNat < 128
          · by_cases hz : x.toNat ≤ 0
            · by_cases hk0 : 0 < k
              · have hs : Hid (vget l = (0, 0, 21)) := by rw [hstep2.out, if_pos h128, if_pos ⟨by omega, hk0⟩]; rfl
                clear hstep2
                rcases hk9 with hk9 | ⟨hk9, hx1⟩ <;>
                · go_wp2
                  go_ret3
                  exact ⟨by rw [hs.out]; rfl, rfl⟩
              · have hs : Hid (vget l = (acc + (x.toNat % 128) * 128 ^ k, k + 1, 0)) := by rw [hstep2.out, if_pos h128, if_neg (by omega)]; rfl
                clear hstep2
                rcases hk9 with hk9 | ⟨hk9, hx1⟩
                · go_wp2
                  go_ret3
                  refine ⟨?_, rfl⟩
                  rw [hs.out]
                  refine congrArg (fun z => Ending.returned (.tuple #[.int .u64 z, .int .i64 ((k : Int) + 1), .int .i64 0])) ?_
                  have hor0 := hor.out
                  rw [show x.toNat % 128 = 0 by omega] at hor0 ⊢
                  simpa using hor0
                · simp at hk9; omega
            · have hz' : ((x.toNat : Int) == 0) = false := by simp; omega
              have hs : Hid (vget l = (acc + (x.toNat % 128) * 128 ^ k, k + 1, 0)) := by rw [hstep2.out, if_pos h128, if_neg (by omega)]; rfl
              clear hstep2
              rcases hk9 with hk9 | ⟨hk9, hx1⟩ <;>
              · go_wp2
                go_ret3
                refine ⟨?_, rfl⟩
                rw [hs.out]
                refine congrArg (fun z => Ending.returned (.tuple #[.int .u64 z, .int .i64 ((k : Int) + 1), .int .i64 0])) ?_
                exact hor.out
          · have hs : Hid (vget l = vgetF (10 - (k + 1)) (k + 1) (acc + (x.toNat % 128) * 128 ^ k) (l.drop (k + 1))) := by rw [hstep2.out, if_neg h128]; rfl
            clear hstep2
            rcases hk9 with hk9 | ⟨hk9, hx1⟩
            · go_wp2
              go_round
              case rel => exact ⟨k + 1, acc + (x.toNat % 128) * 128 ^ k, by omega, by omega, by go_num, congrArg (Value.int .u64) hor.out, hac, hs.out⟩
              case measure => simp [intOf]; omega
            · omega
      · have hs : Hid (vget l = (0, 0, 20)) := by
          rw [HG.out, List.drop_eq_nil_of_le (by omega)]
          obtain ⟨f, hf⟩ : ∃ f, 10 - k = f + 1 := ⟨9 - k, by omega⟩
          rw [hf]; rfl
        have hkl' : l.length ≤ k := by omega
        clear HG
        go_wp2
        go_ret3
        exact ⟨by rw [hs.out]; rfl, rfl⟩
    · have hs : Hid (vget l = (0, 0, 21)) := by
        rw [HG.out, show 10 - k = 0 by omega]; rfl
      clear HG
      go_wp2
      go_ret3
      exact ⟨by rw [hs.out]; rfl, rfl⟩

theorem vcnt_step (k : Nat) (c : UInt8) (l : List UInt8) : vcnt (k + 1) (c :: l) = if 128 ≤ c.toNat then 1 + vcnt k l else 0 := rfl

set_option maxHeartbeats 1000000 in
set_option maxRecDepth 100000 in
theorem rGet_any (B : Nat) (A : Option Addr) (c : Nat) (l : List UInt8) (w : World) (h : Rd w B A (cells l)) (hl : l.length ≤ 4294967296) :
    Calls Try.prog 38 #[.slice A l.length c] w fun e w' => e = .returned (tri (vget l)) ∧ w = w' := by
  go_enter Try.func38, Try.ntmps38
  go_wp2
  go_loop [5] (fun vi => ∃ k : Nat, k ≤ 10 ∧ k ≤ l.length ∧ vi = .int .i64 k ∧ vcnt 10 l = k + vcnt (10 - k) (l.drop k))
    (fun vi => (10 - intOf vi).toNat)
  case atStart => exact ⟨0, by omega, by omega, rfl, by simp⟩
  case round =>
    obtain ⟨k, hk, hkll, rfl, hcnt⟩ := hrel
    have HC := Lib.hid hcnt
    clear hcnt
    by_cases hgo : k < 10 ∧ ∃ hkl : k < l.length, 128 ≤ (l[k]).toNat
    · obtain ⟨hk10, hkl, h128⟩ := hgo
      obtain ⟨b, o, rfl, hb, hc⟩ := rd_cell h hkl
      have hck := hc k hkl
      clear hc
      obtain ⟨x, hx⟩ : ∃ x, x = l[k] := ⟨_, rfl⟩
      rw [← hx] at hck h128
      have hX := Lib.hid hx
      clear hx
      go_wp2
      go_round
      case rel =>
        refine ⟨k + 1, by omega, by omega, by go_num, ?_⟩
        obtain ⟨f, hf⟩ : ∃ f, 10 - k = f + 1 := ⟨9 - k, by omega⟩
        rw [HC.out, List.drop_eq_getElem_cons hkl, hf, vcnt_step, ← hX.out, if_pos h128, show 10 - (k + 1) = f by omega]
        omega
      case measure => simp [intOf]; omega
    · -- the count is k
      have hkc : vcnt 10 l = k := by
        rw [HC.out]
        rcases Nat.lt_or_ge k 10 with hk10 | hk10
        · obtain ⟨f, hf⟩ : ∃ f, 10 - k = f + 1 := ⟨9 - k, by omega⟩
          rcases Nat.lt_or_ge k l.length with hkl | hkl
          · rw [List.drop_eq_getElem_cons hkl, hf, vcnt_step, if_neg (fun h => hgo ⟨hk10, hkl, h⟩)]
            rfl
          · rw [List.drop_eq_nil_of_le hkl, hf]; rfl
        · rw [show 10 - k = 0 by omega]; rfl
      clear HC
      have href := vget_ref l
      rw [hkc] at href
      have HR := Lib.hid href
      have HK := Lib.hid hkc
      clear href hkc
      by_cases hlen : l.length ≤ k
      · by_cases hk10 : k < 10
        · have hs : Hid (vget l = (0, 0, 20)) := by rw [HR.out, if_pos ⟨by omega, hk10⟩]; rfl
          clear HR hgo
          go_wp2
          go_ret3
          exact ⟨by rw [hs.out]; rfl, rfl⟩
        · have hs : Hid (vget l = (0, 0, 21)) := by rw [HR.out, if_neg (by omega), if_pos (by omega)]; rfl
          clear HR hgo
          go_wp2
          go_ret3
          exact ⟨by rw [hs.out]; rfl, rfl⟩
      · have hkl : k < l.length := by omega
        by_cases hk10 : k < 10
        · have h128 : (l[k]).toNat < 128 := by
            rcases Nat.lt_or_ge (l[k]).toNat 128 with h | h
            · exact h
            · exact absurd ⟨hk10, hkl, h⟩ hgo
          clear hgo
          obtain ⟨b, o, rfl, hb, hc⟩ := rd_cell h hkl
          have hck := hc k hkl
          have hall := Lib.hid hc
          clear hc
          have hval := vget_mid l k HK.out hk10 hkl
          clear HR
          obtain ⟨x, hx⟩ : ∃ x, x = l[k] := ⟨_, rfl⟩
          rw [← hx] at hck h128 hval
          have HV := Lib.hid hval
          have hX := Lib.hid hx
          clear hx hval
          have hk9f : ((k : Int) == 10) = false := by simp; omega
          by_cases hbad : 9 ≤ k ∧ 1 < x.toNat
          · obtain ⟨h9a, h9b⟩ := hbad
            have hk9 : ((k : Int) == 9) = true := by simp; omega
            have hc9 : w.cell? ⟨b, o + 9, none⟩ = some (.int .u8 (x.toNat : Int)) := by rw [← hck]; congr 2; omega
            have hs : Hid (vget l = (0, 0, 21)) := by rw [HV.out, if_pos (.inl ⟨by omega, h9b⟩)]; rfl
            have h9len : 9 < l.length := by omega
            clear HV
            go_wp2
            go_ret3
            exact ⟨by rw [hs.out]; rfl, rfl⟩
          · have hx1 : k = 9 → x.toNat ≤ 1 := by omega
            have hx9 : (9 : Int) = (k : Int) → x.toNat ≤ 1 := by omega
            by_cases hz : 0 < k ∧ x.toNat = 0
            · obtain ⟨hk0, hxz⟩ := hz
              have hs : Hid (vget l = (0, 0, 21)) := by rw [HV.out, if_pos (.inr ⟨hk0, hxz⟩)]; rfl
              have hxz' : ((x.toNat : Int) == 0) = true := by simp; omega
              have hxle : x.toNat ≤ 1 := by omega
              clear HV hxz
              by_cases h9 : 9 ≤ k
              · have hk9 : ((k : Int) == 9) = true := by simp; omega
                have hc9 : w.cell? ⟨b, o + 9, none⟩ = some (.int .u8 (x.toNat : Int)) := by rw [← hck]; congr 2; omega
                have h9len : 9 < l.length := by omega
                go_wp2
                go_ret3
                exact ⟨by rw [hs.out]; rfl, rfl⟩
              · have hk9 : ((k : Int) == 9) = false := by simp; omega
                go_wp2
                go_ret3
                exact ⟨by rw [hs.out]; rfl, rfl⟩
            · have hs0 : vget l = (vval (l.take (k + 1)), k + 1, 0) := by
                rw [HV.out, if_neg]
                rintro (h | h)
                · omega
                · exact hz h
              have hbd : vval (l.take (k + 1)) < 18446744073709551616 := by
                have := (vget_val l).1
                rw [hs0] at this; exact this
              have hs := Lib.hid hs0
              clear HV hs0
              have hzz : (k : Int) ≤ 0 ∨ ((x.toNat : Int) == 0) = false := by
                rcases Nat.eq_zero_or_pos k with h | h
                · exact .inl (by omega)
                · refine .inr ?_
                  simp; omega
              have hways : ((k : Int) == 9) = false ∧ (k : Int) ≤ 0 ∨ ((k : Int) == 9) = false ∧ ((x.toNat : Int) == 0) = false ∧ 0 < k ∨ (9 ≤ k ∧ ((k : Int) == 9) = true ∧ ((x.toNat : Int) == 0) = false ∧ w.cell? ⟨b, o + 9, none⟩ = some (.int .u8 (x.toNat : Int)) ∧ 9 < l.length ∧ x.toNat ≤ 1) := by
                rcases Nat.lt_or_ge k 9 with h | h
                · have hk9 : ((k : Int) == 9) = false := by simp; omega
                  rcases Nat.eq_zero_or_pos k with h0 | h0
                  · exact .inl ⟨hk9, by omega⟩
                  · exact .inr (.inl ⟨hk9, hzz.resolve_left (by omega), h0⟩)
                · refine .inr (.inr ⟨h, by simp; omega, hzz.resolve_left (by omega), ?_, by omega, by omega⟩)
                  rw [← hck]; congr 2; omega
              clear hzz hz hx9 hx1 hbad
              rcases hways with ⟨hk9, hz0⟩ | ⟨hk9, hz0, hk0⟩ | ⟨h9k, hk9, hz0, hc9, h9len, hx1⟩
              all_goals
                go_wp2
                go_loop [6, 7] (fun vv vi => ∃ i : Int, -1 ≤ i ∧ i ≤ k ∧ vi = .int .i64 i ∧ vv = .int .u64 (vval ((l.take (k + 1)).drop (i + 1).toNat)))
                  (fun _ vi => (intOf vi + 1).toNat)
                case atStart =>
                  refine ⟨k, by omega, by omega, rfl, ?_⟩
                  rw [List.drop_eq_nil_of_le (by simp; omega)]; rfl
                case round =>
                  obtain ⟨i, hi1, hi2, rfl, rfl⟩ := hrel
                  by_cases hi : 0 ≤ i
                  · obtain ⟨m, rfl⟩ := Int.eq_ofNat_of_zero_le hi
                    have hmk : m ≤ k := by omega
                    have hml : m < l.length := by omega
                    have hcm := hall.out m hml
                    have hvd := vval_drop (l.take (k + 1)) m (by simp; omega)
                    rw [List.getElem_take] at hvd
                    have hvle := vval_le (l.take (k + 1)) m
                    have e1 : ((m : Int) + 1).toNat = m + 1 := by omega
                    rw [e1]
                    obtain ⟨y, hy⟩ : ∃ y, y = l[m] := ⟨_, rfl⟩
                    rw [← hy] at hcm hvd
                    obtain ⟨V, hV⟩ : ∃ V, V = vval ((l.take (k + 1)).drop (m + 1)) := ⟨_, rfl⟩
                    rw [← hV] at hvd ⊢
                    have hbV : V * 128 + y.toNat % 128 < 18446744073709551616 := by omega
                    have HD := Lib.hid hvd
                    have HV2 := Lib.hid hV
                    have hy256 : y.toNat < 256 := y.toNat_lt
                    clear hvd hV hvle hy e1 hck
                    go_wp2
                    go_round
                    case rel =>
                      refine ⟨(m : Int) - 1, by omega, by omega, rfl, ?_⟩
                      have e2 : ((m : Int) - 1 + 1).toNat = m := by omega
                      rw [e2, HD.out]
                      refine congrArg (Value.int .u64) ?_
                      omega
                    case measure => simp [intOf]
                  · have e1 : (i + 1).toNat = 0 := by omega
                    rw [e1, List.drop_zero]
                    have hi' : i < 0 := by omega
                    clear e1 hi
                    go_wp2
                    go_ret3
                    exact ⟨by first | (rw [hs.out]; done) | (rw [hs.out]; rfl), rfl⟩
        · have hs : Hid (vget l = (0, 0, 21)) := by rw [HR.out, if_neg (by omega), if_pos (by omega)]; rfl
          obtain ⟨b, o, rfl, hb, hc⟩ := rd_cell h hkl
          have hck := hc k hkl
          clear HR hgo hc
          go_wp2
          go_ret3
          exact ⟨by rw [hs.out]; rfl, rfl⟩
end Go.Proofs.Ythkpgjcnnfdibaa

/-! Words shared by laws over bytes: literals in memory, strings of bytes and back. No condition. -/
namespace Go.Proofs.Ythkpgjcnnfdibaa
open Go.RowKit

theorem bytes_app (a b : List UInt8) : (⟨a.toArray⟩ : ByteArray) ++ ⟨b.toArray⟩ = ⟨(a ++ b).toArray⟩ := by
  apply ByteArray.ext
  simp
theorem bytes_inj {a b : List UInt8} : ((⟨a.toArray⟩ : ByteArray) = ⟨b.toArray⟩) ↔ a = b := by
  constructor
  · intro h
    have := congrArg ByteArray.data h
    simpa using this
  · rintro rfl; rfl
/-- a literal's cells -/
theorem rd_arr (W : World) (xs : List Value) (T : TypeId) (b B : Nat) (hb : b = W.heap.size) (hB : b < B) : Rd (W.alloc (.cells xs.toArray T)) B (some ⟨b, 0, none⟩) xs := by
  subst hb
  refine .inr ⟨_, _, rfl, hB, fun j u hu => ?_⟩
  have h1 : (W.alloc (.cells xs.toArray T)).heap[W.heap.size]? = some (.cells xs.toArray T (0, 0)) := heap_alloc_new W _
  simp only [World.cell?, h1, Nat.zero_add]
  simpa using hu
theorem own_le {w : World} {base n c : Nat} {A : Option Addr} {e : TypeId} {sz : Nat} {xs : List Value} (h : w.ownsRow base e sz (.slice A n c) n xs) : n ≤ c := by
  obtain ⟨A', c', hv, hc⟩ := own_form h
  simp only [Value.slice.injEq] at hv
  omega
/-- []byte(s) -/
theorem conv_str (w : World) (bs : List UInt8) : ∃ c o, (convert 9 22 (.string ⟨bs.toArray⟩)).run Try.prog w = .ok (.slice (some ⟨w.heap.size, 0, none⟩) bs.length c) (w.drew.alloc o) ∧
    Rd (w.drew.alloc o) (w.heap.size + 1) (some ⟨w.heap.size, 0, none⟩) (cells bs) ∧ bs.length ≤ c := by
  have h := run_bytes_of_string w 9 22 5 ⟨bs.toArray⟩ Try.underlying9 Try.underlying22 Try.underlying5
  have hs : (⟨bs.toArray⟩ : ByteArray).size = bs.length := by simp [ByteArray.size]
  rw [hs] at h
  refine ⟨_, _, h, .inr ⟨_, _, rfl, by omega, fun j u hu => ?_⟩, ?_⟩
  · rw [Nat.zero_add, cell_of_row _ w.heap.size j _ _ _ (heap_alloc_new w.drew _)]
    have hj : j < bs.length := by
      have := (List.getElem?_eq_some_iff.1 hu).1
      simpa using this
    rw [← hu]
    unfold bytesRow
    rw [Array.getElem?_append_left (by simpa using hj)]
    simp
  · exact grownCap_ge _ _ _ _
end Go.Proofs.Ythkpgjcnnfdibaa

/-! Words on slices of bytes: 'b[lo:]' read as a list. No condition. -/
namespace Go.Proofs.Ythkpgjcnnfdibaa
open Go.RowKit
set_option linter.unusedVariables false

/-- How long a slice is. -/
def lenOf : Value → Nat | .slice _ n _ => n | _ => 0

theorem run_from (A : Option Addr) (n c u : Nat) (hu : u ≤ n) (w : World) :
    (Instr.sliceAt 22 (.slice A n c) (some (.int .i64 (u : Int))) none none).run Try.prog w = .ok (.slice (if c = u then A else A.map (·.add u)) (n - u) (c - u)) w := by
  obtain ⟨i0, hi, hz0, hz1, hz2⟩ := info_parts Try.infoU8
  simp [Instr.sliceAt, Instr.slice, run_underlying Try.underlying22, Instr.sliceBounds, run_sliceBound, sizeOf, typeInfo, hi, hz1, (by omega : (0 : Int) ≤ (u : Int)), (by omega : (u : Int) ≤ (n : Int))]

section
variable {ops : Array Oper} {Q : Exit → Act → World → Prop} {rest : List Oper} {a : Act} {w : World} {ty : TypeId} {pos : String} {af : Array Edge}
theorem wpList_from (d x lo : Nat) {A : Option Addr} {n c : Nat} {z : Int} {B : Nat} (l : List UInt8) (u : Nat) (hx : a.eval (.tmp x) = .slice A n c) (hlo : a.eval (.tmp lo) = .int .i64 z) (hn : n = l.length) (hc : n ≤ c) (hz : z = u) (hu : u ≤ l.length)
    (hr : Rd w B A (cells l)) (h : ∀ (A' : Option Addr) (c' : Nat) (r : List UInt8), Hid (r = l.drop u) → Rd w B A' (cells r) → r.length ≤ c' → wpList Try.prog ops Q rest (a.put (some d) (.slice A' r.length c')) w) :
    wpList Try.prog ops Q ({ dst := some d, op := .slice 22 (.tmp x) (some (.tmp lo)) none none, type := ty, pos := pos, after := af, guard := none } :: rest) a w := by
  subst hn hz
  refine wpList_plain rfl fun K hK => ?_
  unfold Oper.wp execOp
  simp only [Option.map_some, Option.map_none, hx, hlo, Sem.run_bind, Sem.run_pure, Result.andThen_ok, run_from A l.length c u hu w]
  refine hK _ _ ?_
  have h1 := hr.cut u (c = u) (fun e => by simp; omega)
  have e1 : (l.drop u).length = l.length - u := List.length_drop
  have := h (if c = u then A else A.map (·.add u)) (c - u) (l.drop u) (Lib.hid rfl) (by unfold cells at *; rw [List.map_drop]; exact h1) (by omega)
  rw [e1] at this
  exact this
end
end Go.Proofs.Ythkpgjcnnfdibaa

/-! Values (a kind, a number, a text) in memory, and how a slice of them that comes in is opened. No condition. -/
namespace Go.Proofs.Ythkpgjcnnfdibaa
open Go.ChangeShapes Go.WideShapes Go.ChangeAt Go.RowKit Go.Joins Go.Deep

/-- a value: its kind, its number, its text -/
structure V where
  k : Nat
  n : Int
  t : List UInt8
deriving DecidableEq
def i64r (n : Int) : Prop := -9223372036854775808 ≤ n ∧ n ≤ 9223372036854775807
def vok (v : V) : Prop := v.k < 256 ∧ i64r v.n ∧ v.t.length ≤ maxLen
def null : V := ⟨0, 0, []⟩
abbrev txt (t : List UInt8) : Value := .string ⟨t.toArray⟩
/-- a value's three cells -/
abbrev cv (v : V) : List Value := [.int .u8 (v.k : Int), .int .i64 v.n, txt v.t]
abbrev va (v : V) : Value := .agg #[.int .u8 (v.k : Int), .int .i64 v.n, txt v.t]
def vcells (l : List V) : List Value := l.flatMap cv
theorem vcells_nil : vcells [] = [] := rfl
theorem vcells_cons (v : V) (l : List V) : vcells (v :: l) = cv v ++ vcells l := rfl
theorem vcells_append (l m : List V) : vcells (l ++ m) = vcells l ++ vcells m := List.flatMap_append
theorem vcells_snoc (l : List V) (v : V) : vcells (l ++ [v]) = vcells l ++ cv v := by rw [vcells_append]; simp [vcells]
theorem vcells_length : ∀ l : List V, (vcells l).length = l.length * 3
  | [] => rfl
  | v :: l => by rw [vcells_cons, List.length_append, vcells_length l]; simp; omega
theorem vcells_one (l : List V) : ∀ u ∈ vcells l, u.oneCell' = true := by
  intro u hu
  obtain ⟨v, _, hv⟩ := List.mem_flatMap.1 hu
  simp only [cv, List.mem_cons, List.not_mem_nil, or_false] at hv
  rcases hv with rfl | rfl | rfl <;> rfl
theorem cv_one (v : V) : ∀ u ∈ cv v, u.oneCell' = true := by
  intro u hv
  simp only [cv, List.mem_cons, List.not_mem_nil, or_false] at hv
  rcases hv with rfl | rfl | rfl <;> rfl
theorem vcells_get : ∀ (l : List V) (j : Nat), (vcells l)[j]? = (l[j / 3]?).bind fun v => (cv v)[j % 3]?
  | [], j => by simp [vcells]
  | v :: l, j => by
    rw [vcells_cons]
    rcases Nat.lt_or_ge j 3 with h | h
    · rw [List.getElem?_append_left (by simpa using h), show j / 3 = 0 by omega, show j % 3 = j by omega]; rfl
    · rw [List.getElem?_append_right (by simpa using h), show (cv v).length = 3 from rfl, vcells_get l (j - 3), show j / 3 = (j - 3) / 3 + 1 by omega, show (j - 3) % 3 = j % 3 by omega]; rfl
theorem vcells_at (l : List V) (i : Nat) (v : V) (h : l[i]? = some v) : (vcells l)[i * 3]? = some (.int .u8 (v.k : Int)) ∧ (vcells l)[i * 3 + 1]? = some (.int .i64 v.n) ∧ (vcells l)[i * 3 + 2]? = some (txt v.t) := by
  refine ⟨?_, ?_, ?_⟩
  · rw [vcells_get, show i * 3 / 3 = i by omega, h, show i * 3 % 3 = 0 by omega]; rfl
  · rw [vcells_get, show (i * 3 + 1) / 3 = i by omega, h, show (i * 3 + 1) % 3 = 1 by omega]; rfl
  · rw [vcells_get, show (i * 3 + 2) / 3 = i by omega, h, show (i * 3 + 2) % 3 = 2 by omega]; rfl
/-- the cells of value i of a slice that reads as l -/
theorem rd_val {w : World} {B : Nat} {A : Option Addr} {l : List V} (h : Rd w B A (vcells l)) {i : Nat} {v : V} (hi : l[i]? = some v) : ∃ b o, A = some ⟨b, o, none⟩ ∧ b < B ∧
    w.cell? ⟨b, o + i * 3, none⟩ = some (.int .u8 (v.k : Int)) ∧ w.cell? ⟨b, o + i * 3 + 1, none⟩ = some (.int .i64 v.n) ∧ w.cell? ⟨b, o + i * 3 + 2, none⟩ = some (txt v.t) := by
  have hlt : i < l.length := (List.getElem?_eq_some_iff.1 hi).1
  obtain ⟨b, o, hA, hb, hc⟩ := h.at (k := i * 3) (by rw [vcells_length]; omega)
  obtain ⟨h1, h2, h3⟩ := vcells_at l i v hi
  exact ⟨b, o, hA, hb, hc _ _ h1, by rw [Nat.add_assoc]; exact hc _ _ h2, by rw [Nat.add_assoc]; exact hc _ _ h3⟩
theorem Try.infoVal : ∃ by_, (Try.prog.info? 46).map (fun i => (i.zero, i.size, i.bytes)) = some (some (.agg #[.int .u8 0, .int .i64 0, .string ByteArray.empty]), 3, by_) ∧ by_ ≤ 64 := ⟨32, by kernel_rfl, by decide⟩
theorem El_val : ∃ by_, El Try.prog 37 46 3 by_ ∧ by_ ≤ 64 := by
  obtain ⟨b, h, hb⟩ := Try.infoVal
  exact ⟨b, el_of Try.underlying37 h rfl (by decide), hb⟩

theorem pick_list {α : Type} (p : Nat → α → Prop) : ∀ n : Nat, (∀ i, i < n → ∃ x, p i x) → ∃ l : List α, l.length = n ∧ ∀ i x, l[i]? = some x → p i x
  | 0, _ => ⟨[], rfl, by simp⟩
  | n + 1, h => by
    obtain ⟨l, h1, h2⟩ := pick_list p n fun i hi => h i (by omega)
    obtain ⟨x, hx⟩ := h n (by omega)
    refine ⟨l ++ [x], by simp [h1], fun i y hy => ?_⟩
    rcases Nat.lt_or_ge i l.length with hi | hi
    · rw [List.getElem?_append_left hi] at hy; exact h2 i y hy
    · rw [List.getElem?_append_right hi] at hy
      have hi' : i - l.length = 0 := by
        have := (List.getElem?_eq_some_iff.1 hy).1
        simp at this; omega
      rw [hi'] at hy
      simp at hy
      subst hy
      have : i = n := by omega
      subst this; exact hx

section
variable {H : Type} {enc : TypeId × Value → H} {P : Program} {W : World} {base : Nat} {spare : Nat → Bool} {held : Bool}
theorem open_vals {r : Reach} {b0 : Nat} {t e : TypeId} {f0 f1 f2 : Field} {v : Value} {d : DataW H} {p : List MemPlace} (ht : P.underlying t = some (.slice e)) (he : P.underlying e = some (.struct #[f0, f1, f2]))
    (hone : oneCellFields P #[f0, f1, f2] = true) (hC : P.cellsOf e = 3) (u0 : P.underlying f0.type = some (.int .u8)) (u1 : P.underlying f1.type = some (.int .i64)) (u2 : P.underlying f2.type = some .string)
    (hv : Value.okWide P W r b0 t v) (h : DataW.Trod enc P W base spare held t v d p) :
    ∃ (A : Option Addr) (l : List V) (c : Nat), v = .slice A l.length c ∧ Rd W W.heap.size A (vcells l) ∧ (l.length ≤ c ∧ c ≤ maxLen) ∧ ∀ x ∈ l, vok x := by
  obtain ⟨A, len, c, rfl⟩ := okWide_slice ht hv
  obtain ⟨fuel, hf⟩ := h
  rcases open_slice ht hf with ⟨hcs, _⟩ | ⟨a, len', cap, m, n, D, Pl, hcs, _, hlc, hcm, hm, _, hi⟩
  · simp [Value.cells] at hcs
    obtain ⟨rfl, rfl, rfl⟩ := hcs
    exact ⟨none, [], 0, rfl, .inl rfl, by simp, by simp⟩
  · simp [Value.cells] at hcs
    obtain ⟨rfl, rfl, rfl⟩ := hcs
    have hl : len ≤ m := by rw [hm]; split <;> omega
    have key : ∀ i, i < len → ∃ x : V, vok x ∧ W.cell? (a.add (i * 3)) = some (.int .u8 (x.k : Int)) ∧ W.cell? ((a.add (i * 3)).add 1) = some (.int .i64 x.n) ∧ W.cell? ((a.add (i * 3)).add 2) = some (txt x.t) := by
      intro i him
      obtain ⟨cs', hc, ht'⟩ := hi i (by omega)
      rw [hC] at hc
      obtain ⟨_, hcl, hat⟩ := World.cells?_some hc
      obtain ⟨xs, n', _, _, _, hxl, hg⟩ := DataW.trod_struct he ht'
      match cs', hcl with
      | [c0, c1, c2], _ =>
        obtain ⟨o0, k0⟩ := hone_of hone 0 f0 rfl
        obtain ⟨o1, k1⟩ := hone_of hone 1 f1 rfl
        obtain ⟨o2, k2⟩ := hone_of hone 2 f2 rfl
        match xs, hxl with
        | [y0, y1, y2], _ =>
          have g0 : DataW.trod enc P W base spare held n' f0.type [c0] = some y0 := by simpa [Value.cells, o0, k0] using hg 0 f0 rfl
          have g1 : DataW.trod enc P W base spare held n' f1.type [c1] = some y1 := by simpa [Value.cells, o1, k1] using hg 1 f1 rfl
          have g2 : DataW.trod enc P W base spare held n' f2.type [c2] = some y2 := by simpa [Value.cells, o2, k2] using hg 2 f2 rfl
          obtain ⟨a0, e0, _, w0⟩ := DataW.trod_int u0 g0
          obtain ⟨a1, e1, _, w1⟩ := DataW.trod_int u1 g1
          obtain ⟨s2, e2, _, w2⟩ := DataW.trod_string u2 g2
          simp at e0 e1 e2
          subst e0 e1 e2
          have b0 := u8_bd w0
          have b1 := i64_bd w1
          have hs : (⟨s2.data.toList.toArray⟩ : ByteArray) = s2 := by cases s2; simp
          refine ⟨⟨a0.toNat, a1, s2.data.toList⟩, ⟨by show a0.toNat < 256; omega, b1, by show s2.data.toList.length ≤ maxLen; rw [Array.length_toList]; exact w2⟩, ?_, ?_, ?_⟩
          · have := hat 0 (by omega)
            rw [show (a.add (i * 3)).add 0 = a.add (i * 3) by simp [Addr.add]] at this
            rw [this]
            show some (Value.int .u8 a0) = some (Value.int .u8 ((a0.toNat : Nat) : Int))
            rw [Int.toNat_of_nonneg b0.1]
          · exact hat 1 (by omega)
          · rw [hat 2 (by omega)]
            show some (Value.string s2) = some (Value.string ⟨s2.data.toList.toArray⟩)
            rw [hs]
    obtain ⟨l, h1, h2⟩ := pick_list _ len key
    refine ⟨some a, l, c, by rw [h1], rd_of ?_, ⟨by omega, hcm⟩, fun x hx => ?_⟩
    · intro j u hu
      rw [vcells_get] at hu
      obtain ⟨x, hx, hu⟩ := Option.bind_eq_some_iff.1 hu
      obtain ⟨_, q0, q1, q2⟩ := h2 _ _ hx
      have hj : j = j / 3 * 3 + j % 3 := by omega
      have hadd : ∀ q, (a.add (j / 3 * 3)).add q = a.add (j / 3 * 3 + q) := fun q => Go.Deep.add_add _ _ _
      rw [hadd] at q1 q2
      have h3 : j % 3 < 3 := Nat.mod_lt _ (by omega)
      rcases (show j % 3 = 0 ∨ j % 3 = 1 ∨ j % 3 = 2 by omega) with e | e | e
      · rw [e] at hu hj; rw [hj, Nat.add_zero, q0]; simpa using hu
      · rw [e] at hu hj; rw [hj, q1]; simpa using hu
      · rw [e] at hu hj; rw [hj, q2]; simpa using hu
    · obtain ⟨i, hi⟩ := List.getElem?_of_mem hx
      exact (h2 i x hi).1
end
end Go.Proofs.Ythkpgjcnnfdibaa

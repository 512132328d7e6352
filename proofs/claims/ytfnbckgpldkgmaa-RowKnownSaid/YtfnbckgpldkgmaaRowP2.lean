/- Plain laws of layer 4 that the walks of Put and Get want: the bytes as they grow value by value. No program in sight. -/
import Derived.Test.YtfnbckgpldkgmaaRowP
namespace Go.Proofs.Ytfnbckgpldkgmaa
open Go.RowKit
set_option linter.unusedVariables false

/-- the bytes behind k values -/
def bsAt (l : List V) (k : Nat) : List UInt8 := layP (size8 l.length) (fun i => decide (i < k) && nullAt l i) ++ (l.take k).flatMap vone
theorem size8_le (n : Nat) : n ≤ 8 * size8 n := by unfold size8; omega
theorem layP_false (m : Nat) : layP m (fun _ => false) = List.replicate m 0 := by
  unfold layP
  rw [show (fun j => (byteP (fun _ => false) j).toUInt8) = fun _ => (0 : UInt8) from by funext j; simp [byteP, bw], List.map_const', List.length_range]
theorem bsAt_0 (l : List V) : bsAt l 0 = List.replicate (size8 l.length) 0 := by
  unfold bsAt
  simp [layP_false]
theorem nullAt_of {l : List V} {k : Nat} {v : V} (h : l[k]? = some v) : nullAt l k = isNull v := by unfold nullAt; rw [h]
theorem flat_more {l : List V} {k : Nat} {v : V} (h : l[k]? = some v) : (l.take (k + 1)).flatMap vone = (l.take k).flatMap vone ++ vone v := by
  rw [List.take_add_one, h]; simp
theorem bsAt_len (l : List V) (k : Nat) : (bsAt l k).length = size8 l.length + ((l.take k).flatMap vone).length := by unfold bsAt; rw [List.length_append, layP_length]
theorem vone_null {v : V} (h : v.k = 0) : vone v = [] := by unfold vone; simp [h]
theorem bsAt_val {l : List V} {k : Nat} {v : V} (h : l[k]? = some v) (h0 : v.k ≠ 0) : bsAt l (k + 1) = bsAt l k ++ vone v := by
  unfold bsAt
  rw [flat_more h, List.append_assoc]
  congr 1
  refine layP_congr fun i _ => ?_
  by_cases hik : i = k
  · subst hik; rw [nullAt_of h]; simp [isNull, h0]
  · congr 1
    exact decide_eq_decide.2 (by omega)
/-- the byte in which bit k lies -/
def byAt (l : List V) (k : Nat) : Nat := byteP (fun i => decide (i < k) && nullAt l i) (k / 8)
theorem byAt_lt (l : List V) (k : Nat) : byAt l k < 256 := byteP_lt _ _
theorem bsAt_get {l : List V} {k : Nat} (h : k < l.length) : (bsAt l k)[k / 8]? = some (byAt l k).toUInt8 := by
  have := size8_le l.length
  unfold bsAt
  rw [List.getElem?_append_left (by rw [layP_length]; omega), layP_get _ (by omega)]
  rfl
theorem bsAt_null {l : List V} {k : Nat} {v : V} (h : l[k]? = some v) (h0 : v.k = 0) : bsAt l (k + 1) = (bsAt l k).set (k / 8) (byAt l k ||| 2 ^ (k % 8)).toUInt8 := by
  have hk : k < l.length := (List.getElem?_eq_some_iff.1 h).1
  have h8 := size8_le l.length
  unfold bsAt byAt
  rw [flat_more h, vone_null h0, List.append_nil, List.set_append_left _ _ (by rw [layP_length]; omega), layP_set _ _ _ (by omega)]
  congr 1
  refine layP_congr fun i _ => ?_
  by_cases hik : i = k
  · subst hik; rw [nullAt_of h]; simp [isNull, h0]
  · have e : decide (i < k + 1) = decide (i < k) := decide_eq_decide.2 (by omega)
    simp [e, hik]
theorem bsAt_end (l : List V) : bsAt l l.length = rbytes l := by
  unfold bsAt rbytes
  rw [List.take_length]
  congr 1
  refine layP_congr fun i _ => ?_
  by_cases hi : i < l.length
  · simp [hi]
  · have : nullAt l i = false := by unfold nullAt; rw [List.getElem?_eq_none (by omega)]
    simp [this]
theorem vone_le {v : V} (hn : i64r v.n) (ht : v.t.length < 18446744073709551616) : (vone v).length ≤ 10 + v.t.length := by
  have hz := zig_bd v.n hn.1 hn.2
  have h1 := vput_length64 (show (zig v.n).toNat < 18446744073709551616 by omega)
  have h2 := vput_length64 ht
  unfold vone
  split
  · simp; omega
  split
  · omega
  split
  · rw [List.length_append]; omega
  · simp
theorem flatv_le (l : List V) (k : Nat) : ((l.take k).flatMap vone).length ≤ (l.flatMap vone).length := by
  conv => rhs; rw [← List.take_append_drop k l]
  rw [List.flatMap_append, List.length_append]; omega
theorem flatv_bound (M : Nat) : ∀ (l : List V), (∀ v ∈ l, i64r v.n ∧ v.t.length ≤ M) → M < 18446744073709551616 → (l.flatMap vone).length ≤ l.length * (10 + M)
  | [], _, _ => by simp
  | v :: l, h, hM => by
    have h2 := h v (by simp)
    have h1 := vone_le h2.1 (by omega)
    have h3 := flatv_bound M l (fun u hu => h u (by simp [hu])) hM
    simp only [List.flatMap_cons, List.length_append, List.length_cons, Nat.add_mul, Nat.one_mul]
    omega
end Go.Proofs.Ytfnbckgpldkgmaa

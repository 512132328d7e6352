/- The walks of package varint (layer 2): each function answers what the plain functions vput, vget, zig, zag say. -/
import Derived.Test.YtfnbckgpldkgmaaDrawn
import Derived.Test.YtfnbckgpldkgmaaVarP
namespace Go.Proofs.Ytfnbckgpldkgmaa
open Go.RowKit

/-- a byte in memory -/
abbrev b8 (c : UInt8) : Value := .int .u8 (c.toNat : Int)
theorem Try.infoU8 : (Try.prog.info? 5).map (fun i => (i.zero, i.size, i.bytes)) = some (some (.int .u8 0), 1, 1) := by kernel_rfl

theorem xor_ones (x : Nat) (h : x < 18446744073709551616) : x ^^^ 18446744073709551615 = 18446744073709551615 - x := by
  have e : (BitVec.ofNat 64 x ^^^ BitVec.allOnes 64).toNat = (~~~ BitVec.ofNat 64 x).toNat := by rw [BitVec.xor_allOnes]
  rw [BitVec.toNat_xor, BitVec.toNat_not, BitVec.toNat_allOnes, BitVec.toNat_ofNat, Nat.mod_eq_of_lt (show x < 2 ^ 64 from h)] at e
  simpa using e
theorem ofInt_i64 (x : Int) (h : 0 ≤ x) (h' : x ≤ 9223372036854775807) : (BitVec.ofInt 64 x).toNat = x.toNat := by
  rw [BitVec.toNat_ofInt]
  omega
theorem xor_i64_zero (x : Int) (h : 0 ≤ x) (h' : x ≤ 9223372036854775807) : bits .xor .i64 x 0 = x := by
  show IntKind.i64.wrap ((BitVec.ofInt 64 x ^^^ BitVec.ofInt 64 0).toNat : Nat) = x
  rw [show (BitVec.ofInt 64 0) = 0#64 from rfl, BitVec.xor_zero, ofInt_i64 x h h', IntKind.wrap_i64]
  omega
theorem xor_i64_ones (x : Int) (h : 0 ≤ x) (h' : x ≤ 9223372036854775807) : bits .xor .i64 x (-1) = -x - 1 := by
  show IntKind.i64.wrap ((BitVec.ofInt 64 x ^^^ BitVec.ofInt 64 (-1)).toNat : Nat) = -x - 1
  rw [show (BitVec.ofInt 64 (-1)) = BitVec.allOnes 64 from rfl, BitVec.xor_allOnes, BitVec.toNat_not, ofInt_i64 x h h', IntKind.wrap_i64]
  omega

theorem zig_pos (v : Int) (h : 0 ≤ v) (h' : v ≤ 9223372036854775807) : bits .xor .u64 (v * 2) (v / 9223372036854775808) = 2 * v := by
  have e2 : v / 9223372036854775808 = 0 := by omega
  rw [e2, u64_xor (v * 2) 0 (by omega) (by omega) (by omega) (by omega)]
  simp; omega
theorem zig_neg (v : Int) (h : v < 0) (h' : -9223372036854775808 ≤ v) :
    bits .xor .u64 (IntKind.u64.wrap (IntKind.u64.wrap v * 2)) (IntKind.u64.wrap (v / 9223372036854775808)) = -2 * v - 1 := by
  have e1 : IntKind.u64.wrap (IntKind.u64.wrap v * 2) = 2 * v + 18446744073709551616 := by rw [IntKind.wrap_u64, IntKind.wrap_u64]; omega
  have e2 : IntKind.u64.wrap (v / 9223372036854775808) = 18446744073709551615 := by rw [IntKind.wrap_u64]; omega
  rw [e1, e2, u64_xor _ _ (by omega) (by omega) (by omega) (by omega)]
  have e3 : (18446744073709551615 : Int).toNat = 18446744073709551615 := rfl
  rw [e3, xor_ones _ (by omega)]
  omega
theorem Zig_any (v : Int) (h : -9223372036854775808 ≤ v) (h' : v ≤ 9223372036854775807) (w : World) :
    Calls Try.prog 29 #[.int .i64 v] w fun e w' => e = .returned (.int .u64 (zig v)) ∧ w = w' := by
  by_cases h0 : 0 ≤ v
  · have hz : zig v = 2 * v := if_pos h0
    rw [hz]
    clear hz
    go_enter Try.func29, Try.ntmps29
    go_wp2
    go_ret
    exact ⟨congrArg (fun x => Ending.returned (.int .u64 x)) (zig_pos v h0 h'), rfl⟩
  · have hz : zig v = -2 * v - 1 := if_neg h0
    rw [hz]
    have h1 : v < 0 := by omega
    clear hz h0
    go_enter Try.func29, Try.ntmps29
    go_wp2
    go_ret
    exact ⟨congrArg (fun x => Ending.returned (.int .u64 x)) (zig_neg v h1 h), rfl⟩
theorem zag_bits (u : Int) (h : 0 ≤ u) (h' : u < 18446744073709551616) : bits .xor .i64 (u / 2) (wrap64 (-wrap64 (bits .and .u64 u 1))) = zag u := by
  have e1 : bits .and .u64 u 1 = u % 2 := by
    rw [u64_and u 1 h h' (by omega) (by omega)]
    have : (1 : Int).toNat = 1 := rfl
    rw [this, nat_mask1]; omega
  rw [e1]
  unfold zag
  by_cases h0 : u % 2 = 0
  · rw [h0, if_pos rfl, show wrap64 (-wrap64 0) = 0 by simp [wrap64]]
    exact xor_i64_zero _ (by omega) (by omega)
  · have h1 : u % 2 = 1 := by omega
    rw [h1, if_neg (by omega), show wrap64 (-wrap64 1) = -1 by simp [wrap64]]
    exact xor_i64_ones _ (by omega) (by omega)
theorem Zag_any (u : Int) (h : 0 ≤ u) (h' : u < 18446744073709551616) (w : World) :
    Calls Try.prog 32 #[.int .u64 u] w fun e w' => e = .returned (.int .i64 (zag u)) ∧ w = w' := by
  go_enter Try.func32, Try.ntmps32
  go_wp2
  go_ret
  exact ⟨congrArg (fun x => Ending.returned (.int .i64 x)) (zag_bits u h h'), rfl⟩
theorem rZig_any (v : Int) (h : -9223372036854775808 ≤ v) (h' : v ≤ 9223372036854775807) (w : World) :
    Calls Try.prog 37 #[.int .i64 v] w fun e w' => e = .returned (.int .u64 (zig v)) ∧ w = w' := by
  by_cases h0 : 0 ≤ v
  · have hz : zig v = 2 * v := if_pos h0
    rw [hz]
    clear hz
    go_enter Try.func37, Try.ntmps37
    go_wp2
    go_ret
    exact ⟨by first | rfl | (congr 2; omega), rfl⟩
  · have hz : zig v = -2 * v - 1 := if_neg h0
    rw [hz]
    have h1 : v < 0 := by omega
    clear hz h0
    go_enter Try.func37, Try.ntmps37
    go_wp2
    go_ret
    exact ⟨congrArg (fun x => Ending.returned (.int .u64 x)) (by show _ = _; omega), rfl⟩
theorem rZag_any (u : Int) (h : 0 ≤ u) (h' : u < 18446744073709551616) (w : World) :
    Calls Try.prog 39 #[.int .u64 u] w fun e w' => e = .returned (.int .i64 (zag u)) ∧ w = w' := by
  by_cases h0 : u % 2 = 0
  · have hz : zag u = u / 2 := if_pos h0
    rw [hz]
    clear hz
    go_enter Try.func39, Try.ntmps39
    go_wp2
    go_ret
    exact ⟨rfl, rfl⟩
  · have hz : zag u = -(u / 2) - 1 := if_neg h0
    rw [hz]
    clear hz
    go_enter Try.func39, Try.ntmps39
    go_wp2
    go_ret
    exact ⟨rfl, rfl⟩
end Go.Proofs.Ytfnbckgpldkgmaa

/- The walk of row.Get (layer 4): it answers rget, in new memory. No condition but sizes. -/
import Derived.Test.YtfnbckgpldkgmaaRow5
namespace Go.Proofs.Ytfnbckgpldkgmaa
open Go.RowKit Go.Maps
set_option linter.unusedVariables false
set_option linter.unusedSimpArgs false

theorem shr8 (x r : Nat) (hx : x < 256) (hr : r < 8) (w : World) : (Op.shift .shr .u8 (x : Int) .i64 (r : Int)).run Try.prog w = .ok (.int .u8 ((x / 2 ^ r : Nat) : Int)) w := by
  rcases (by omega : r = 0 ∨ r = 1 ∨ r = 2 ∨ r = 3 ∨ r = 4 ∨ r = 5 ∨ r = 6 ∨ r = 7) with rfl | rfl | rfl | rfl | rfl | rfl | rfl | rfl <;> (simp [go_sem]; try omega)
theorem and1 (y : Nat) (hy : y < 256) : bits .and .u8 (y : Int) 1 = ((y % 2 : Nat) : Int) := by
  rw [u8_and _ _ (by omega) (by omega) (by omega) (by omega)]
  have : (1 : Int).toNat = 1 := rfl
  rw [this, Int.toNat_natCast, nat_mask1]
theorem bitAt_of {b : List UInt8} {i : Nat} {x : UInt8} (h : b[i / 8]? = some x) : bitAt b i = decide (x.toNat / 2 ^ (i % 8) % 2 = 1) := by unfold bitAt; rw [h]; rfl
theorem bitAt_take {b : List UInt8} {i m : Nat} (h : i < 8 * m) : bitAt (b.take m) i = bitAt b i := by
  unfold bitAt
  rw [List.getElem?_take, if_pos (by omega)]

set_option maxHeartbeats 1000000 in
set_option maxRecDepth 100000 in
theorem null_any (B : Nat) (A : Option Addr) (c : Nat) (b : List UInt8) (q i : Nat) (w : World) (hr : Rd w B A (cells b)) (hq : w.cell? ⟨q, 0, none⟩ = some (.slice A b.length c)) (hi : i < 8 * b.length) (hl : b.length ≤ 4294967296) :
    Calls Try.prog 22 #[.int .i64 (i : Int), .pointer (some ⟨q, 0, none⟩)] w fun e w' => e = .returned (.bool (bitAt b i)) ∧ w = w' := by
  have hlt : i / 8 < b.length := by omega
  obtain ⟨bb, oo, rfl, hb, hc⟩ := rd_cell hr hlt
  have hck := hc (i / 8) hlt
  obtain ⟨x, hx⟩ : ∃ x, x = b[i / 8] := ⟨_, rfl⟩
  rw [← hx] at hck
  have hbit := bitAt_of (b := b) (i := i) (x := x) (by rw [hx]; exact List.getElem?_eq_getElem hlt)
  have hx256 := x.toNat_lt
  obtain ⟨X, hX⟩ : ∃ X, X = x.toNat := ⟨_, rfl⟩
  rw [← hX] at hck hbit hx256
  obtain ⟨j, hj⟩ : ∃ j, j = i / 8 := ⟨_, rfl⟩
  obtain ⟨r, hrr⟩ : ∃ r, r = i % 8 := ⟨_, rfl⟩
  have hr8 : r < 8 := by omega
  have hjI : (i : Int) / 8 = (j : Int) := by omega
  have htm : (i : Int).tmod 8 = (r : Int) := by rw [Int.tmod_eq_emod_of_nonneg (by omega)]; omega
  have hsh := fun w => shr8 X r hx256 hr8 w
  have hy : X / 2 ^ r < 256 := Nat.lt_of_le_of_lt (Nat.div_le_self _ _) hx256
  have han := and1 (X / 2 ^ r) hy
  rw [← hrr] at hbit
  rw [← hj] at hck hlt
  have hwj : IntKind.i64.wrap (j : Int) = (j : Int) := by rw [IntKind.wrap_i64]; omega
  have hjLI : (j : Int) < (b.length : Int) := by omega
  have hval : (bits .and .u8 ((X : Int) / 2 ^ r) 1 == 1) = bitAt b i := by
    rw [show ((X : Int) / 2 ^ r) = ((X / 2 ^ r : Nat) : Int) by simp, han, hbit]
    by_cases h : X / 2 ^ r % 2 = 1
    · simp [h]
    · have h0 : X / 2 ^ r % 2 = 0 := by omega
      simp [h0]
  have HB := Lib.hid hval
  clear hx hX hj hrr hc hbit hy hval hi hsh han
  go_enter Try.func22, Try.ntmps22
  go_wp2
  go_ret
  exact ⟨by rw [← HB.out]; rfl, rfl⟩

/-- 'b[:m]' of bytes that are read. -/
theorem upto_any {A : Option Addr} {n c : Nat} (m : Nat) (hm : m ≤ n) (hc : n ≤ c) (w' : World) (z : Int) (hz : z = m) :
    (Instr.sliceAt 22 (.slice A n c) none (some (.int .i64 z)) none).run Try.prog w' = .ok (.slice A m c) w' := by
  obtain ⟨i0, hi, hz0, hz1, hz2⟩ := info_parts Try.infoU8
  subst hz
  simp [Instr.sliceAt, Instr.slice, run_underlying Try.underlying22, Instr.sliceBounds, run_sliceBound, sizeOf, typeInfo, hi, hz1, (by omega : (0 : Int) ≤ (m : Int)), (by omega : (m : Int) ≤ (c : Int))]
  intro _
  cases A <;> simp [Addr.add]

theorem vcells_rep (v : V) (n : Nat) (cs : Array Value) (hcs : cs.toList = cv v) : (madeCells cs (n * 3)).toList = vcells (List.replicate n v) := by
  have h3 : cs.size = 3 := by rw [← Array.length_toList, hcs]; rfl
  apply List.ext_getElem?
  intro j
  rw [vcells_get, List.getElem?_replicate]
  by_cases hj : j < n * 3
  · rw [if_pos (by omega)]
    have hm : j % 3 < 3 := Nat.mod_lt _ (by omega)
    have hget : cs[j % 3]? = (cv v)[j % 3]? := by rw [← Array.getElem?_toList, hcs]
    simp only [madeCells, Array.toList_map, Array.toList_range, List.getElem?_map, h3]
    rw [List.getElem?_range hj]
    simp only [Option.map_some, Option.bind_some, ← hget]
    rw [Array.getElem?_eq_getElem (by omega)]
    simp [getElem!_pos, h3, hm]
  · rw [if_neg (by omega)]
    simp [madeCells, hj]
/-- a value stored in a slice of values of the call's own -/
theorem own_set3 {w : World} {base n cap g : Nat} {e : TypeId} {l : List V} (h : w.ownsRow base e 3 (.slice (some ⟨g, 0, none⟩) n cap) n (vcells l)) {i : Nat} (v : V) (hi : i < l.length) :
    (((w.setCell ⟨g, i * 3, none⟩ (.int .u8 (v.k : Int))).setCell ⟨g, i * 3 + 1, none⟩ (.int .i64 v.n)).setCell ⟨g, i * 3 + 2, none⟩ (txt v.t)).ownsRow base e 3 (.slice (some ⟨g, 0, none⟩) n cap) n (vcells (l.set i v)) := by
  have h3 := ((h.stored (i * 3) (.int .u8 (v.k : Int))).1.stored (i * 3 + 1) (.int .i64 v.n)).1.stored (i * 3 + 2) (txt v.t)
  have e : (((vcells l).set (i * 3) (.int .u8 (v.k : Int))).set (i * 3 + 1) (.int .i64 v.n)).set (i * 3 + 2) (txt v.t) = vcells (l.set i v) := by
    apply List.ext_getElem?
    intro j
    rw [vcells_get (l.set i v), List.getElem?_set (l := l)]
    have hl := vcells_length l
    rcases (by omega : j = i * 3 ∨ j = i * 3 + 1 ∨ j = i * 3 + 2 ∨ (i ≠ j / 3 ∧ j ≠ i * 3 ∧ j ≠ i * 3 + 1 ∧ j ≠ i * 3 + 2)) with rfl | rfl | rfl | ⟨h0, h1, h2, h3⟩
    · rw [if_pos (show i = i * 3 / 3 by omega), if_pos hi, show i * 3 % 3 = 0 by omega]
      rw [List.getElem?_set_ne (show i * 3 + 2 ≠ i * 3 by omega), List.getElem?_set_ne (show i * 3 + 1 ≠ i * 3 by omega), List.getElem?_set_self (by omega)]; rfl
    · rw [if_pos (show i = (i * 3 + 1) / 3 by omega), if_pos hi, show (i * 3 + 1) % 3 = 1 by omega]
      rw [List.getElem?_set_ne (show i * 3 + 2 ≠ i * 3 + 1 by omega), List.getElem?_set_self (by rw [List.length_set]; omega)]; rfl
    · rw [if_pos (show i = (i * 3 + 2) / 3 by omega), if_pos hi, show (i * 3 + 2) % 3 = 2 by omega]
      rw [List.getElem?_set_self (by rw [List.length_set, List.length_set]; omega)]; rfl
    · rw [if_neg h0, List.getElem?_set_ne (Ne.symm h3), List.getElem?_set_ne (Ne.symm h2), List.getElem?_set_ne (Ne.symm h1), vcells_get]
  rw [e] at h3
  exact h3.1
end Go.Proofs.Ytfnbckgpldkgmaa

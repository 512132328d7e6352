/- The walk of column.lay (layer 6), whatever function tells the bits: it answers bitsN, in new memory. For at most 65536 bits. -/
import Derived.Test.YtiijnfakphhbeaaColP
import Derived.Test.YtiijnfakphhbeaaKys
namespace Go.Proofs.Ytiijnfakphhbeaa
open Go.RowKit Go.Maps
set_option linter.unusedVariables false
set_option linter.unusedSimpArgs false

set_option maxHeartbeats 4000000 in
set_option maxRecDepth 100000 in
theorem lay_any (n : Nat) (hn : n ≤ 65536) (f : FuncId) (q : Value) (p : Nat → Bool) (hent : ∀ args w, (callFunc f args).run Try.prog w = .ok (.enter f args) w) (w : World)
    (hp : ∀ w', Below w.heap.size w w' → ∀ i, i < n → Calls Try.prog f #[.int .i64 (i : Int), q] w' fun e w'' => e = .returned (.bool (p i)) ∧ w' = w'') :
    Calls Try.prog 30 #[.int .i64 (n : Int), .func (.func f) #[] #[q]] w (RetB w (bitsN n p)) := by
  obtain ⟨m, hm⟩ : ∃ m, m = size8 n := ⟨_, rfl⟩
  have hmn : m ≤ n + 7 := by rw [hm]; unfold size8; omega
  have hmI : ((n : Int) + 7) / 8 = (m : Int) := by rw [hm]; unfold size8; omega
  have hm8 : n ≤ 8 * m := by rw [hm]; exact size8_le n
  have HM := Lib.hid hm
  clear hm
  obtain ⟨i0, hi, hz0, hz1, hz2⟩ := info_parts Try.infoU8
  obtain ⟨w1, hmk, hown, hg⟩ := run_make_full (P := Try.prog) w w.heap.size 24 5 i0 (.int .u8 0) 1 Try.underlying24 hi hz0 hz1 .i64 .i64 m (by rw [hz2]; omega) (by unfold maxLen; omega) (Nat.le_refl _)
  have hmk2 : (Instr.makeSlice 24 (.int .i64 (m : Int)) (.int .i64 (m : Int))).run Try.prog w = .ok (.slice (some ⟨w.heap.size, 0, none⟩) m m) w1 := hmk
  have hown1 : w1.ownsRow w.heap.size 5 1 (.slice (some ⟨w.heap.size, 0, none⟩) m m) (bitsTo m p 0).length (cells (bitsTo m p 0)) := by
    have h := hown
    rw [show (Value.int .u8 0).cells = #[.int .u8 0] from rfl, toList_madeCells_one, Nat.mul_one] at h
    have e2 : cells (bitsTo m p 0) = List.replicate m (.int .u8 0) := by rw [bitsTo_0]; simp [cells]
    rw [e2, bitsTo_len]; exact h
  have hb1 : Below w.heap.size w w1 := (Below.refl _ w).grown hg (Nat.le_refl _) (by simp)
  clear hmk hown hi hz0 hz1 hz2 hg
  have HP := Lib.hid hp
  have HENT := Lib.hid hent
  clear hp hent
  go_enter Try.func30, Try.ntmps30
  go_wp2_with fail
  try rw [hmI]
  go_loopw [12] (fun v12 wr => ∃ k : Nat, k ≤ n ∧ v12 = .int .i64 k ∧ wr.ownsRow w.heap.size 5 1 (.slice (some ⟨w.heap.size, 0, none⟩) m m) (bitsTo m p k).length (cells (bitsTo m p k)) ∧ Below w.heap.size w wr) (fun v12 _ => n - (intOf v12).toNat)
  case atStart => exact ⟨0, by omega, rfl, hown1, hb1⟩
  case round =>
    clear hown1 hb1 hmk2
    obtain ⟨k, hk, rfl, hown, hbel⟩ := hrel
    by_cases hlt : k < n
    case neg =>
      have hkn : k = n := by omega
      have he : bitsTo m p k = bitsN n p := by rw [hkn, HM.out]; rfl
      rw [he] at hown
      have hl := bitsN_len n p
      rw [← HM.out] at hl
      subst hkn
      clear he
      go_wp2_with fail
      go_ret
      exact retB_of hown hbel
    have hkI : (k : Int) < (n : Int) := by omega
    have C0 := HP.out wr hbel k hlt
    have hent := HENT.out
    have hy : p k = true → bitsTo m p (k + 1) = (bitsTo m p k).set (k / 8) (byteTo p k ||| 2 ^ (k % 8)).toUInt8 := fun h => bitsTo_yes h (by omega)
    have hno : p k = false → bitsTo m p (k + 1) = bitsTo m p k := fun h => bitsTo_no h
    have hget := bitsTo_get (m := m) p (show k < 8 * m by omega)
    obtain ⟨pk, hpk⟩ : ∃ x, x = p k := ⟨_, rfl⟩
    rw [← hpk] at C0 hy hno
    obtain ⟨bs, hbs⟩ : ∃ bs, bs = bitsTo m p k := ⟨_, rfl⟩
    have hbl : bs.length = m := by rw [hbs]; exact bitsTo_len _ _ _
    rw [← hbs] at hown hy hno hget
    have HC := Lib.hid C0
    have HY := Lib.hid hy
    have HNO := Lib.hid hno
    rw [hbl] at hown
    clear C0 hy hno hpk hbs
    go_wp2_with fail
    refine HC.out.mono ?_; rintro e w4 ⟨rfl, rfl⟩
    cases pk
    · have hst := HNO.out rfl
      have HST := Lib.hid hst
      clear hst
      go_wp2_with fail
      go_roundw
      case rel => exact ⟨k + 1, by omega, by go_num, by rw [HST.out, hbl]; exact hown, hbel⟩
      case measure => simp [intOf]; omega
    · have hst := HY.out rfl
      obtain ⟨x, hx⟩ : ∃ x, x = byteTo p k := ⟨_, rfl⟩
      have hx256 : x < 256 := by rw [hx]; exact byteTo_lt _ _
      rw [← hx] at hget hst
      obtain ⟨j, hj⟩ : ∃ j, j = k / 8 := ⟨_, rfl⟩
      obtain ⟨r, hr⟩ : ∃ r, r = k % 8 := ⟨_, rfl⟩
      have hjI : (k : Int) / 8 = (j : Int) := by omega
      have hrI : (k : Int) % 8 = (r : Int) := by omega
      have hr8 : r < 8 := by omega
      have hjL : j < m := by omega
      have hjLI : (j : Int) < (m : Int) := by omega
      rw [← hj] at hget hst
      rw [← hr] at hst
      have hcell : wr.cell? ⟨w.heap.size, j, none⟩ = some (.int .u8 (x : Int)) := by
        rw [hown.cellAt j (by omega), List.getElem?_map, hget]
        simp [b8, toNat_toUInt8 hx256]
      have hfr : wr.frozen? ⟨w.heap.size, j, none⟩ = false := hown.frozenAt j
      have hwj : IntKind.i64.wrap (j : Int) = (j : Int) := by rw [IntKind.wrap_i64]; omega
      have htm : (k : Int).tmod 8 = (r : Int) := by rw [Int.tmod_eq_emod_of_nonneg (by omega)]; omega
      have hsh := fun w => shl8 r hr8 w
      have hor := or8 x (2 ^ r) hx256 (by have := Nat.pow_lt_pow_right (a := 2) (by omega) hr8; omega)
      have HST := Lib.hid hst
      have HR := Lib.hid hr
      clear hx hj hr hget hst
      go_wp2_with fail
      refine ah_start 11 (fun w' => True) rfl (by kernel_rfl) trivial ?_ ; intro hS
      (refine mv_val 0 (v := ?_) rfl (by kernel_rfl) (by kernel_rfl) (by kernel_rfl) (fun _ _ _ h => h) (by rfl) hS ?_ ?_; rotate_left; (focus (intro w hSw; (try dsimp only at hSw); (have f2 := hjL; have f3 := hjI; have f4 := hrI; have f5 := hjLI; have f6 := hr8; have f7 := hwj; have f8 := htm; have f9 := hsh w; have f10 := hor); go_simp; first | done | with_reducible rfl)); simp only [Act.put, List.setIfInBounds_toArray, List.set_cons_zero, List.set_cons_succ])
      (refine mv_val 1 (v := ?_) rfl (by kernel_rfl) (by kernel_rfl) (by kernel_rfl) (fun _ _ _ h => h) (by rfl) hS ?_ ?_; rotate_left; (focus (intro w hSw; (try dsimp only at hSw); (have f2 := hjL; have f3 := hjI; have f4 := hrI; have f5 := hjLI; have f6 := hr8; have f7 := hwj; have f8 := htm; have f9 := hsh w; have f10 := hor); go_simp; first | done | with_reducible rfl)); simp only [Act.put, List.setIfInBounds_toArray, List.set_cons_zero, List.set_cons_succ])
      (refine mv_val 2 (v := ?_) rfl (by kernel_rfl) (by kernel_rfl) (by kernel_rfl) (fun _ _ _ h => h) (by rfl) hS ?_ ?_; rotate_left; (focus (intro w hSw; (try dsimp only at hSw); (have f2 := hjL; have f3 := hjI; have f4 := hrI; have f5 := hjLI; have f6 := hr8; have f7 := hwj; have f8 := htm; have f9 := hsh w; have f10 := hor); go_simp; first | done | with_reducible rfl)); simp only [Act.put, List.setIfInBounds_toArray, List.set_cons_zero, List.set_cons_succ])
      (refine mv_val 3 (v := ?_) rfl (by kernel_rfl) (by kernel_rfl) (by kernel_rfl) (fun _ _ _ h => h) (by rfl) hS ?_ ?_; rotate_left; (focus (intro w hSw; (try dsimp only at hSw); (have f2 := hjL; have f3 := hjI; have f4 := hrI; have f5 := hjLI; have f6 := hr8; have f7 := hwj; have f8 := htm; have f9 := hsh w; have f10 := hor); go_simp; first | done | with_reducible rfl)); simp only [Act.put, List.setIfInBounds_toArray, List.set_cons_zero, List.set_cons_succ])
      (refine mv_val 5 (v := ?_) rfl (by kernel_rfl) (by kernel_rfl) (by kernel_rfl) (fun _ _ _ h => h) (by rfl) hS ?_ ?_; rotate_left; (focus (intro w hSw; (try dsimp only at hSw); (have f2 := hjL; have f3 := hjI; have f4 := hrI; have f5 := hjLI; have f6 := hr8; have f7 := hwj; have f8 := htm; have f9 := hsh w; have f10 := hor); go_simp; first | done | with_reducible rfl)); simp only [Act.put, List.setIfInBounds_toArray, List.set_cons_zero, List.set_cons_succ])
      (refine mv_val 6 (v := ?_) rfl (by kernel_rfl) (by kernel_rfl) (by kernel_rfl) (fun _ _ _ h => h) (by rfl) hS ?_ ?_; rotate_left; (focus (intro w hSw; (try dsimp only at hSw); (have f2 := hjL; have f3 := hjI; have f4 := hrI; have f5 := hjLI; have f6 := hr8; have f7 := hwj; have f8 := htm; have f9 := hsh w; have f10 := hor); go_simp; first | done | with_reducible rfl)); simp only [Act.put, List.setIfInBounds_toArray, List.set_cons_zero, List.set_cons_succ])
      (refine mv_val 7 (v := ?_) rfl (by kernel_rfl) (by kernel_rfl) (by kernel_rfl) (fun _ _ _ h => h) (by rfl) hS ?_ ?_; rotate_left; (focus (intro w hSw; (try dsimp only at hSw); (have f2 := hjL; have f3 := hjI; have f4 := hrI; have f5 := hjLI; have f6 := hr8; have f7 := hwj; have f8 := htm; have f9 := hsh w; have f10 := hor); go_simp; first | done | with_reducible rfl)); simp only [Act.put, List.setIfInBounds_toArray, List.set_cons_zero, List.set_cons_succ])
      refine mv_step 4 rfl (by kernel_rfl) (by rfl) (fun K hK => ?_)
      go_simp
      refine hK _ _ ?_ ?_ <;> clear hK K
      · trivial
      try simp only [Act.put, List.setIfInBounds_toArray, List.set_cons_zero, List.set_cons_succ]
      (refine mv_val 8 (v := ?_) rfl (by kernel_rfl) (by kernel_rfl) (by kernel_rfl) (fun _ _ _ h => h) (by rfl) hS ?_ ?_; rotate_left; (focus (intro w hSw; (try dsimp only at hSw); (have f2 := hjL; have f3 := hjI; have f4 := hrI; have f5 := hjLI; have f6 := hr8; have f7 := hwj; have f8 := htm; have f9 := hsh w; have f10 := hor); go_simp; first | done | with_reducible rfl)); simp only [Act.put, List.setIfInBounds_toArray, List.set_cons_zero, List.set_cons_succ])
      (refine mv_val 9 (v := ?_) rfl (by kernel_rfl) (by kernel_rfl) (by kernel_rfl) (fun _ _ _ h => h) (by rfl) hS ?_ ?_; rotate_left; (focus (intro w hSw; (try dsimp only at hSw); (have f2 := hjL; have f3 := hjI; have f4 := hrI; have f5 := hjLI; have f6 := hr8; have f7 := hwj; have f8 := htm; have f9 := hsh w; have f10 := hor); go_simp; first | done | with_reducible rfl)); simp only [Act.put, List.setIfInBounds_toArray, List.set_cons_zero, List.set_cons_succ])
      refine mv_step 10 rfl (by kernel_rfl) (by rfl) (fun K hK => ?_)
      go_simp
      refine hK _ _ ?_ ?_ <;> clear hK K
      · trivial
      try simp only [Act.put, List.setIfInBounds_toArray, List.set_cons_zero, List.set_cons_succ]
      refine wpAnyH_done (by kernel_rfl) ?_ _
      go_wp2_with fail
      go_roundw
      case rel =>
        have h256 : 2 ^ r < 256 := Nat.pow_lt_pow_right (a := 2) (by omega) hr8
        have hx2 : x ||| 2 ^ r < 256 := Nat.or_lt_two_pow (n := 8) hx256 (Nat.pow_lt_pow_right (by omega) hr8)
        refine ⟨k + 1, by omega, by go_num, ?_, (hbel.setCell (p := ⟨w.heap.size, j, none⟩) (Nat.le_refl _) _).drew⟩
        have hown2 := hown
        rw [← hbl] at hown2
        have h := own_byte (bs' := bitsTo m p (k + 1)) (j := j) (y := x ||| 2 ^ r) (z := bits .or .u8 (x : Int) ((2 : Int) ^ r % 256)) hown2 hx2 (by
          have e : ((2 ^ r : Nat) : Int) % 256 = ((2 ^ r : Nat) : Int) := Int.emod_eq_of_lt (Int.natCast_nonneg _) (Int.ofNat_lt.2 h256)
          rw [show ((2 : Int) ^ r) = ((2 ^ r : Nat) : Int) by simp, e, hor]) HST.out
        rw [hbl] at h
        exact h
      case measure => simp [intOf]; omega
end Go.Proofs.Ytiijnfakphhbeaa

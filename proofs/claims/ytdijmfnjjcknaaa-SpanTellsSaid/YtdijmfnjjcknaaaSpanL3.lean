/- The walk of the law SpanBuckets: it answers true. No condition. -/
import Derived.Test.YtdijmfnjjcknaaaSpanP2
namespace Go.Proofs.Ytdijmfnjjcknaaa
open Go.RowKit
set_option linter.unusedVariables false
set_option linter.unusedSimpArgs false

theorem has_ok {f t x : Int} {b : Bool} (h : decide (f ≤ x ∧ x < t) = b) (w : World) : Calls Try.prog 14 #[Sp f t, .int .i64 x] w fun e w' => e = .returned (.bool b) ∧ Below w.heap.size w w' := by
  have := has_any f t x w; rw [h] at this; exact this
theorem and_ok {a b c d x y : Int} (h1 : andF a b c d = x) (h2 : andT a b c d = y) (w : World) : Calls Try.prog 13 #[Sp a b, Sp c d] w fun e w' => e = .returned (Sp x y) ∧ Below w.heap.size w w' := by
  have := and_any a b c d w; rw [h1, h2] at this; exact this
theorem out_ok {f t n x y : Int} (h1 : 1 ≤ n) (h2 : n ≤ 1099511627776) (hf : bnd f) (ht : bnd t) (hx : OutF f t n = x) (hy : OutT f t n = y) (w : World) :
    Calls Try.prog 20 #[Sp f t, .int .i64 n] w fun e w' => e = .returned (.tuple #[Sp x y, .int .i64 0]) ∧ Below w.heap.size w w' := by
  have := Out_any f t n w; rw [hx, hy, wrg_ok2 h1 h2 hf ht] at this; exact this
theorem in_ok {f t n x y : Int} (h1 : 1 ≤ n) (h2 : n ≤ 1099511627776) (hf : bnd f) (ht : bnd t) (hx : InF f t n = x) (hy : InT f t n = y) (w : World) :
    Calls Try.prog 21 #[Sp f t, .int .i64 n] w fun e w' => e = .returned (.tuple #[Sp x y, .int .i64 0]) ∧ Below w.heap.size w w' := by
  have := In_any f t n w; rw [hx, hy, wrg_ok2 h1 h2 hf ht] at this; exact this

set_option maxHeartbeats 2000000 in
set_option maxRecDepth 100000 in
theorem spanBuckets_walk (t u n k : Int) (W : World) (ht : -9223372036854775808 ≤ t ∧ t ≤ 9223372036854775807) (hu : -9223372036854775808 ≤ u ∧ u ≤ 9223372036854775807) (hn : -9223372036854775808 ≤ n ∧ n ≤ 9223372036854775807) (hk : -9223372036854775808 ≤ k ∧ k ≤ 9223372036854775807) :
    Calls Try.prog 4 #[.int .i64 t, .int .i64 u, .int .i64 n, .int .i64 k] W fun e w' => e = .returned (.bool true) ∧ Below W.heap.size W w' := by
  by_cases h1 : -4611686018427387904 ≤ t ∧ t ≤ 4611686018427387903
  case neg =>
    have T1 := Lib.hid (time_no h1)
    clear h1 ht hn hu hk
    go_enter Try.func4, Try.ntmps4
    go_wp2_with fail
    refine (T1.out _).mono ?_; rintro e w1 ⟨rfl, rfl⟩
    go_wp2_with fail
    refine (wakes9_any _).mono ?_; rintro e w2 ⟨rfl, hb⟩
    go_wp2_with fail
    go_ret
    exact ⟨rfl, hb⟩
  have T1 := Lib.hid (time_ok h1)
  by_cases h2 : -4611686018427387904 ≤ u ∧ u ≤ 4611686018427387903
  case neg =>
    have T2 := Lib.hid (time_no h2)
    clear h1 h2 ht hn hu hk
    go_enter Try.func4, Try.ntmps4
    go_wp2_with fail
    refine (T1.out _).mono ?_; rintro e w1 ⟨rfl, rfl⟩
    go_wp2_with fail
    refine (T2.out _).mono ?_; rintro e w1 ⟨rfl, rfl⟩
    go_wp2_with fail
    refine (wakes9_any _).mono ?_; rintro e w2 ⟨rfl, hb⟩
    go_wp2_with fail
    go_ret
    exact ⟨rfl, hb⟩
  have T2 := Lib.hid (time_ok h2)
  by_cases h3 : 1 ≤ n ∧ n ≤ 1099511627776
  case neg =>
    have D1 := Lib.hid (width_no h3)
    clear h1 h2 h3 ht hn hu hk
    go_enter Try.func4, Try.ntmps4
    go_wp2_with fail
    refine (T1.out _).mono ?_; rintro e w1 ⟨rfl, rfl⟩
    go_wp2_with fail
    refine (T2.out _).mono ?_; rintro e w1 ⟨rfl, rfl⟩
    go_wp2_with fail
    refine (D1.out _).mono ?_; rintro e w1 ⟨rfl, rfl⟩
    go_wp2_with fail
    refine (wakes9_any _).mono ?_; rintro e w2 ⟨rfl, hb⟩
    go_wp2_with fail
    go_ret
    exact ⟨rfl, hb⟩
  have D1 := Lib.hid (width_ok h3)
  obtain ⟨h3a, h3b⟩ := h3
  obtain ⟨h1a, h1b⟩ := h1
  obtain ⟨h2a, h2b⟩ := h2
  have hf1 := fl_bd t n h3a
  have hf2 := fl_bd u n h3a
  have G1 := Lib.hid (fun w => bkt_ok h3a h3b (show bnd t by unfold bnd; omega) w)
  have G2 := Lib.hid (fun w => bkt_ok h3a h3b (show bnd u by unfold bnd; omega) w)
  have E1 := Lib.hid (fl_has t n u h3a)
  have E2 := Lib.hid (fl_apart t n u h3a)
  have E3 := Lib.hid (fl_tmod t n)
  have E4 := Lib.hid (big_bucket t n k h3a)
  obtain ⟨A, hA⟩ : ∃ A, A = fl t n := ⟨_, rfl⟩
  obtain ⟨B, hB⟩ : ∃ B, B = fl u n := ⟨_, rfl⟩
  rw [← hA] at hf1 G1 E1 E2 E3 E4
  rw [← hB] at hf2 G2 E1 E2
  have M1 := Lib.hid hA
  clear hA hB
  have Ht := Lib.hid (has_ok (f := A) (t := A + n) (x := t) (b := true) (by simp; omega))
  go_enter Try.func4, Try.ntmps4
  go_wp2_with fail
  refine (T1.out _).mono ?_; rintro e w1 ⟨rfl, rfl⟩
  go_wp2_with fail
  refine (T2.out _).mono ?_; rintro e w1 ⟨rfl, rfl⟩
  go_wp2_with fail
  refine (D1.out _).mono ?_; rintro e w1 ⟨rfl, rfl⟩
  go_wp2_with fail
  refine (G1.out _).mono ?_; rintro e w1 ⟨rfl, hb1⟩
  have z1 := hb1.size
  go_wp2_with fail
  refine (G2.out _).mono ?_; rintro e w2 ⟨rfl, hb2⟩
  obtain ⟨hc2, hf2'⟩ := bcell hb2
  have z2 := hb2.size; simp at z2
  have y2 : w1.heap.size < w2.heap.size := by omega
  have b2' : Below W.heap.size W w2 := (hb1.alloc z1 _).trans (hb2.mono (by simp; omega))
  obtain ⟨w3, hw3⟩ : ∃ w3, w3 = w2.alloc (.cells #[.int .i64 B, .int .i64 (B + n)] 23) := ⟨_, rfl⟩
  have z3 : w3.heap.size = w2.heap.size + 1 := by rw [hw3]; simp
  have b3' : Below W.heap.size W w3 := by rw [hw3]; exact b2'.alloc b2'.size _
  have k1 : w3.cell? ⟨w1.heap.size, 0, none⟩ = some (.int .i64 A) := by rw [hw3]; simp [go_sem, hc2, y2]
  have k2 : w3.cell? ⟨w1.heap.size, 1, none⟩ = some (.int .i64 (A + n)) := by rw [hw3]; simp [go_sem, hc2, y2]
  have k3 : w3.cell? ⟨w2.heap.size, 0, none⟩ = some (.int .i64 B) := by rw [hw3]; simp [go_sem]
  have k4 : w3.cell? ⟨w2.heap.size, 1, none⟩ = some (.int .i64 (B + n)) := by rw [hw3]; simp [go_sem]
  have F1 : ∀ w', Below w3.heap.size w3 w' → w'.cell? ⟨w1.heap.size, 0, none⟩ = some (.int .i64 A) := fun w' h => cell_be k1 h (by show w1.heap.size < _; omega)
  have F2 : ∀ w', Below w3.heap.size w3 w' → w'.cell? ⟨w1.heap.size, 1, none⟩ = some (.int .i64 (A + n)) := fun w' h => cell_be k2 h (by show w1.heap.size < _; omega)
  have F3 : ∀ w', Below w3.heap.size w3 w' → w'.cell? ⟨w2.heap.size, 0, none⟩ = some (.int .i64 B) := fun w' h => cell_be k3 h (by show w2.heap.size < _; omega)
  have F4 : ∀ w', Below w3.heap.size w3 w' → w'.cell? ⟨w2.heap.size, 1, none⟩ = some (.int .i64 (B + n)) := fun w' h => cell_be k4 h (by show w2.heap.size < _; omega)
  have hsub : A + n - A = n := by omega
  have hn0 : ¬ n = 0 := by omega
  have hwn : IntKind.i64.wrap n = n := by rw [IntKind.wrap_i64]; omega
  go_wp2_with fail
  rw [← hw3]
  clear hc2 hf2' hw3 hb2
  by_cases hAB : A = B
  · subst hAB
    have Hu := Lib.hid (has_ok (f := A) (t := A + n) (x := u) (b := true) (by simpa using E1.out.2 rfl))
    refine ah_start 49 (fun w' => Below w3.heap.size w3 w') rfl (by kernel_rfl) (Below.refl _ _).drew ?_
    intro hS
    (refine mv_val 0 (v := ?_) rfl (by kernel_rfl) (by kernel_rfl) (by kernel_rfl) (fun _ _ _ h => h) (by rfl) hS ?_ ?_; rotate_left; (focus (intro w hSw; (try dsimp only at hSw); (have f1 := F1 w hSw; have f2 := F2 w hSw; have f3 := F3 w hSw; have f4 := F4 w hSw; have f5 := hsub; have f6 := E3.out; have f7 := hn0; have f8 := h3a; have f9 := hwn); go_simp; first | done | with_reducible rfl)); simp only [Act.put, List.setIfInBounds_toArray, List.set_cons_zero, List.set_cons_succ])
    (refine mv_val 1 (v := ?_) rfl (by kernel_rfl) (by kernel_rfl) (by kernel_rfl) (fun _ _ _ h => h) (by rfl) hS ?_ ?_; rotate_left; (focus (intro w hSw; (try dsimp only at hSw); (have f1 := F1 w hSw; have f2 := F2 w hSw; have f3 := F3 w hSw; have f4 := F4 w hSw; have f5 := hsub; have f6 := E3.out; have f7 := hn0; have f8 := h3a; have f9 := hwn); go_simp; first | done | with_reducible rfl)); simp only [Act.put, List.setIfInBounds_toArray, List.set_cons_zero, List.set_cons_succ])
    (refine mv_val 2 (v := ?_) rfl (by kernel_rfl) (by kernel_rfl) (by kernel_rfl) (fun _ _ _ h => h) (by rfl) hS ?_ ?_; rotate_left; (focus (intro w hSw; (try dsimp only at hSw); (have f1 := F1 w hSw; have f2 := F2 w hSw; have f3 := F3 w hSw; have f4 := F4 w hSw; have f5 := hsub; have f6 := E3.out; have f7 := hn0; have f8 := h3a; have f9 := hwn); go_simp; first | done | with_reducible rfl)); simp only [Act.put, List.setIfInBounds_toArray, List.set_cons_zero, List.set_cons_succ])
    (refine mv_val 3 (v := ?_) rfl (by kernel_rfl) (by kernel_rfl) (by kernel_rfl) (fun _ _ _ h => h) (by rfl) hS ?_ ?_; rotate_left; (focus (intro w hSw; (try dsimp only at hSw); (have f1 := F1 w hSw; have f2 := F2 w hSw; have f3 := F3 w hSw; have f4 := F4 w hSw; have f5 := hsub; have f6 := E3.out; have f7 := hn0; have f8 := h3a; have f9 := hwn); go_simp; first | done | with_reducible rfl)); simp only [Act.put, List.setIfInBounds_toArray, List.set_cons_zero, List.set_cons_succ])
    (refine mv_val 4 (v := ?_) rfl (by kernel_rfl) (by kernel_rfl) (by kernel_rfl) (fun _ _ _ h => h) (by rfl) hS ?_ ?_; rotate_left; (focus (intro w hSw; (try dsimp only at hSw); (have f1 := F1 w hSw; have f2 := F2 w hSw; have f3 := F3 w hSw; have f4 := F4 w hSw; have f5 := hsub; have f6 := E3.out; have f7 := hn0; have f8 := h3a; have f9 := hwn); go_simp; first | done | with_reducible rfl)); simp only [Act.put, List.setIfInBounds_toArray, List.set_cons_zero, List.set_cons_succ])
    (refine mv_val 5 (v := ?_) rfl (by kernel_rfl) (by kernel_rfl) (by kernel_rfl) (fun _ _ _ h => h) (by rfl) hS ?_ ?_; rotate_left; (focus (intro w hSw; (try dsimp only at hSw); (have f1 := F1 w hSw; have f2 := F2 w hSw; have f3 := F3 w hSw; have f4 := F4 w hSw; have f5 := hsub; have f6 := E3.out; have f7 := hn0; have f8 := h3a; have f9 := hwn); go_simp; first | done | with_reducible rfl)); simp only [Act.put, List.setIfInBounds_toArray, List.set_cons_zero, List.set_cons_succ])
    (refine mv_val 6 (v := ?_) rfl (by kernel_rfl) (by kernel_rfl) (by kernel_rfl) (fun _ _ _ h => h) (by rfl) hS ?_ ?_; rotate_left; (focus (intro w hSw; (try dsimp only at hSw); (have f1 := F1 w hSw; have f2 := F2 w hSw; have f3 := F3 w hSw; have f4 := F4 w hSw; have f5 := hsub; have f6 := E3.out; have f7 := hn0; have f8 := h3a; have f9 := hwn); go_simp; first | done | with_reducible rfl)); simp only [Act.put, List.setIfInBounds_toArray, List.set_cons_zero, List.set_cons_succ])
    (refine mv_val 7 (v := ?_) rfl (by kernel_rfl) (by kernel_rfl) (by kernel_rfl) (fun _ _ _ h => h) (by rfl) hS ?_ ?_; rotate_left; (focus (intro w hSw; (try dsimp only at hSw); (have f1 := F1 w hSw; have f2 := F2 w hSw; have f3 := F3 w hSw; have f4 := F4 w hSw; have f5 := hsub; have f6 := E3.out; have f7 := hn0; have f8 := h3a; have f9 := hwn); go_simp; first | done | with_reducible rfl)); simp only [Act.put, List.setIfInBounds_toArray, List.set_cons_zero, List.set_cons_succ])
    (refine mv_val 8 (v := ?_) rfl (by kernel_rfl) (by kernel_rfl) (by kernel_rfl) (fun _ _ _ h => h) (by rfl) hS ?_ ?_; rotate_left; (focus (intro w hSw; (try dsimp only at hSw); (have f1 := F1 w hSw; have f2 := F2 w hSw; have f3 := F3 w hSw; have f4 := F4 w hSw; have f5 := hsub; have f6 := E3.out; have f7 := hn0; have f8 := h3a; have f9 := hwn); go_simp; first | done | with_reducible rfl)); simp only [Act.put, List.setIfInBounds_toArray, List.set_cons_zero, List.set_cons_succ])
    (refine mv_call 9 (f := ?_) (args := ?_) rfl (by kernel_rfl) (by rfl) ?_ ?_; rotate_left 2; (focus (go_simp; first | done | with_reducible rfl | (refine ⟨?_, ?_⟩ <;> with_reducible rfl))))
    refine (Ht.out _).mono ?_; rintro e w4 ⟨rfl, hb4⟩
    have hS4 : Below w3.heap.size w3 w4 := hS.trans (hb4.mono hS.size)
    refine ⟨_, rfl, hS4, ?_⟩
    replace hS := hS4
    simp only [Act.put, List.setIfInBounds_toArray, List.set_cons_zero, List.set_cons_succ]
    (refine mv_val 10 (v := ?_) rfl (by kernel_rfl) (by kernel_rfl) (by kernel_rfl) (fun _ _ _ h => h) (by rfl) hS ?_ ?_; rotate_left; (focus (intro w hSw; (try dsimp only at hSw); (have f1 := F1 w hSw; have f2 := F2 w hSw; have f3 := F3 w hSw; have f4 := F4 w hSw; have f5 := hsub; have f6 := E3.out; have f7 := hn0; have f8 := h3a; have f9 := hwn); go_simp; first | done | with_reducible rfl)); simp only [Act.put, List.setIfInBounds_toArray, List.set_cons_zero, List.set_cons_succ])
    (refine mv_val 11 (v := ?_) rfl (by kernel_rfl) (by kernel_rfl) (by kernel_rfl) (fun _ _ _ h => h) (by rfl) hS ?_ ?_; rotate_left; (focus (intro w hSw; (try dsimp only at hSw); (have f1 := F1 w hSw; have f2 := F2 w hSw; have f3 := F3 w hSw; have f4 := F4 w hSw; have f5 := hsub; have f6 := E3.out; have f7 := hn0; have f8 := h3a; have f9 := hwn); go_simp; first | done | with_reducible rfl)); simp only [Act.put, List.setIfInBounds_toArray, List.set_cons_zero, List.set_cons_succ])
    (refine mv_val 12 (v := ?_) rfl (by kernel_rfl) (by kernel_rfl) (by kernel_rfl) (fun _ _ _ h => h) (by rfl) hS ?_ ?_; rotate_left; (focus (intro w hSw; (try dsimp only at hSw); (have f1 := F1 w hSw; have f2 := F2 w hSw; have f3 := F3 w hSw; have f4 := F4 w hSw; have f5 := hsub; have f6 := E3.out; have f7 := hn0; have f8 := h3a; have f9 := hwn); go_simp; first | done | with_reducible rfl)); simp only [Act.put, List.setIfInBounds_toArray, List.set_cons_zero, List.set_cons_succ])
    (refine mv_val 13 (v := ?_) rfl (by kernel_rfl) (by kernel_rfl) (by kernel_rfl) (fun _ _ _ h => h) (by rfl) hS ?_ ?_; rotate_left; (focus (intro w hSw; (try dsimp only at hSw); (have f1 := F1 w hSw; have f2 := F2 w hSw; have f3 := F3 w hSw; have f4 := F4 w hSw; have f5 := hsub; have f6 := E3.out; have f7 := hn0; have f8 := h3a; have f9 := hwn); go_simp; first | done | with_reducible rfl)); simp only [Act.put, List.setIfInBounds_toArray, List.set_cons_zero, List.set_cons_succ])
    (refine mv_val 14 (v := ?_) rfl (by kernel_rfl) (by kernel_rfl) (by kernel_rfl) (fun _ _ _ h => h) (by rfl) hS ?_ ?_; rotate_left; (focus (intro w hSw; (try dsimp only at hSw); (have f1 := F1 w hSw; have f2 := F2 w hSw; have f3 := F3 w hSw; have f4 := F4 w hSw; have f5 := hsub; have f6 := E3.out; have f7 := hn0; have f8 := h3a; have f9 := hwn); go_simp; first | done | with_reducible rfl)); simp only [Act.put, List.setIfInBounds_toArray, List.set_cons_zero, List.set_cons_succ])
    (refine mv_val 15 (v := ?_) rfl (by kernel_rfl) (by kernel_rfl) (by kernel_rfl) (fun _ _ _ h => h) (by rfl) hS ?_ ?_; rotate_left; (focus (intro w hSw; (try dsimp only at hSw); (have f1 := F1 w hSw; have f2 := F2 w hSw; have f3 := F3 w hSw; have f4 := F4 w hSw; have f5 := hsub; have f6 := E3.out; have f7 := hn0; have f8 := h3a; have f9 := hwn); go_simp; first | done | with_reducible rfl)); simp only [Act.put, List.setIfInBounds_toArray, List.set_cons_zero, List.set_cons_succ])
    (refine mv_val 16 (v := ?_) rfl (by kernel_rfl) (by kernel_rfl) (by kernel_rfl) (fun _ _ _ h => h) (by rfl) hS ?_ ?_; rotate_left; (focus (intro w hSw; (try dsimp only at hSw); (have f1 := F1 w hSw; have f2 := F2 w hSw; have f3 := F3 w hSw; have f4 := F4 w hSw; have f5 := hsub; have f6 := E3.out; have f7 := hn0; have f8 := h3a; have f9 := hwn); go_simp; first | done | with_reducible rfl)); simp only [Act.put, List.setIfInBounds_toArray, List.set_cons_zero, List.set_cons_succ])
    (refine mv_val 17 (v := ?_) rfl (by kernel_rfl) (by kernel_rfl) (by kernel_rfl) (fun _ _ _ h => h) (by rfl) hS ?_ ?_; rotate_left; (focus (intro w hSw; (try dsimp only at hSw); (have f1 := F1 w hSw; have f2 := F2 w hSw; have f3 := F3 w hSw; have f4 := F4 w hSw; have f5 := hsub; have f6 := E3.out; have f7 := hn0; have f8 := h3a; have f9 := hwn); go_simp; first | done | with_reducible rfl)); simp only [Act.put, List.setIfInBounds_toArray, List.set_cons_zero, List.set_cons_succ])
    (refine mv_val 18 (v := ?_) rfl (by kernel_rfl) (by kernel_rfl) (by kernel_rfl) (fun _ _ _ h => h) (by rfl) hS ?_ ?_; rotate_left; (focus (intro w hSw; (try dsimp only at hSw); (have f1 := F1 w hSw; have f2 := F2 w hSw; have f3 := F3 w hSw; have f4 := F4 w hSw; have f5 := hsub; have f6 := E3.out; have f7 := hn0; have f8 := h3a; have f9 := hwn); go_simp; first | done | with_reducible rfl)); simp only [Act.put, List.setIfInBounds_toArray, List.set_cons_zero, List.set_cons_succ])
    (refine mv_val 19 (v := ?_) rfl (by kernel_rfl) (by kernel_rfl) (by kernel_rfl) (fun _ _ _ h => h) (by rfl) hS ?_ ?_; rotate_left; (focus (intro w hSw; (try dsimp only at hSw); (have f1 := F1 w hSw; have f2 := F2 w hSw; have f3 := F3 w hSw; have f4 := F4 w hSw; have f5 := hsub; have f6 := E3.out; have f7 := hn0; have f8 := h3a; have f9 := hwn); go_simp; first | done | with_reducible rfl)); simp only [Act.put, List.setIfInBounds_toArray, List.set_cons_zero, List.set_cons_succ])
    (refine mv_val 20 (v := ?_) rfl (by kernel_rfl) (by kernel_rfl) (by kernel_rfl) (fun _ _ _ h => h) (by rfl) hS ?_ ?_; rotate_left; (focus (intro w hSw; (try dsimp only at hSw); (have f1 := F1 w hSw; have f2 := F2 w hSw; have f3 := F3 w hSw; have f4 := F4 w hSw; have f5 := hsub; have f6 := E3.out; have f7 := hn0; have f8 := h3a; have f9 := hwn); go_simp; first | done | with_reducible rfl)); simp only [Act.put, List.setIfInBounds_toArray, List.set_cons_zero, List.set_cons_succ])
    (refine mv_val 21 (v := ?_) rfl (by kernel_rfl) (by kernel_rfl) (by kernel_rfl) (fun _ _ _ h => h) (by rfl) hS ?_ ?_; rotate_left; (focus (intro w hSw; (try dsimp only at hSw); (have f1 := F1 w hSw; have f2 := F2 w hSw; have f3 := F3 w hSw; have f4 := F4 w hSw; have f5 := hsub; have f6 := E3.out; have f7 := hn0; have f8 := h3a; have f9 := hwn); go_simp; first | done | with_reducible rfl)); simp only [Act.put, List.setIfInBounds_toArray, List.set_cons_zero, List.set_cons_succ])
    (refine mv_val 22 (v := ?_) rfl (by kernel_rfl) (by kernel_rfl) (by kernel_rfl) (fun _ _ _ h => h) (by rfl) hS ?_ ?_; rotate_left; (focus (intro w hSw; (try dsimp only at hSw); (have f1 := F1 w hSw; have f2 := F2 w hSw; have f3 := F3 w hSw; have f4 := F4 w hSw; have f5 := hsub; have f6 := E3.out; have f7 := hn0; have f8 := h3a; have f9 := hwn); go_simp; first | done | with_reducible rfl)); simp only [Act.put, List.setIfInBounds_toArray, List.set_cons_zero, List.set_cons_succ])
    (refine mv_val 23 (v := ?_) rfl (by kernel_rfl) (by kernel_rfl) (by kernel_rfl) (fun _ _ _ h => h) (by rfl) hS ?_ ?_; rotate_left; (focus (intro w hSw; (try dsimp only at hSw); (have f1 := F1 w hSw; have f2 := F2 w hSw; have f3 := F3 w hSw; have f4 := F4 w hSw; have f5 := hsub; have f6 := E3.out; have f7 := hn0; have f8 := h3a; have f9 := hwn); go_simp; first | done | with_reducible rfl)); simp only [Act.put, List.setIfInBounds_toArray, List.set_cons_zero, List.set_cons_succ])
    (refine mv_val 24 (v := ?_) rfl (by kernel_rfl) (by kernel_rfl) (by kernel_rfl) (fun _ _ _ h => h) (by rfl) hS ?_ ?_; rotate_left; (focus (intro w hSw; (try dsimp only at hSw); (have f1 := F1 w hSw; have f2 := F2 w hSw; have f3 := F3 w hSw; have f4 := F4 w hSw; have f5 := hsub; have f6 := E3.out; have f7 := hn0; have f8 := h3a; have f9 := hwn); go_simp; first | done | with_reducible rfl)); simp only [Act.put, List.setIfInBounds_toArray, List.set_cons_zero, List.set_cons_succ])
    (refine mv_val 25 (v := ?_) rfl (by kernel_rfl) (by kernel_rfl) (by kernel_rfl) (fun _ _ _ h => h) (by rfl) hS ?_ ?_; rotate_left; (focus (intro w hSw; (try dsimp only at hSw); (have f1 := F1 w hSw; have f2 := F2 w hSw; have f3 := F3 w hSw; have f4 := F4 w hSw; have f5 := hsub; have f6 := E3.out; have f7 := hn0; have f8 := h3a; have f9 := hwn); go_simp; first | done | with_reducible rfl)); simp only [Act.put, List.setIfInBounds_toArray, List.set_cons_zero, List.set_cons_succ])
    (refine mv_val 26 (v := ?_) rfl (by kernel_rfl) (by kernel_rfl) (by kernel_rfl) (fun _ _ _ h => h) (by rfl) hS ?_ ?_; rotate_left; (focus (intro w hSw; (try dsimp only at hSw); (have f1 := F1 w hSw; have f2 := F2 w hSw; have f3 := F3 w hSw; have f4 := F4 w hSw; have f5 := hsub; have f6 := E3.out; have f7 := hn0; have f8 := h3a; have f9 := hwn); go_simp; first | done | with_reducible rfl)); simp only [Act.put, List.setIfInBounds_toArray, List.set_cons_zero, List.set_cons_succ])
    (refine mv_val 27 (v := ?_) rfl (by kernel_rfl) (by kernel_rfl) (by kernel_rfl) (fun _ _ _ h => h) (by rfl) hS ?_ ?_; rotate_left; (focus (intro w hSw; (try dsimp only at hSw); (have f1 := F1 w hSw; have f2 := F2 w hSw; have f3 := F3 w hSw; have f4 := F4 w hSw; have f5 := hsub; have f6 := E3.out; have f7 := hn0; have f8 := h3a; have f9 := hwn); go_simp; first | done | with_reducible rfl)); simp only [Act.put, List.setIfInBounds_toArray, List.set_cons_zero, List.set_cons_succ])
    (refine mv_val 28 (v := ?_) rfl (by kernel_rfl) (by kernel_rfl) (by kernel_rfl) (fun _ _ _ h => h) (by rfl) hS ?_ ?_; rotate_left; (focus (intro w hSw; (try dsimp only at hSw); (have f1 := F1 w hSw; have f2 := F2 w hSw; have f3 := F3 w hSw; have f4 := F4 w hSw; have f5 := hsub; have f6 := E3.out; have f7 := hn0; have f8 := h3a; have f9 := hwn); go_simp; first | done | with_reducible rfl)); simp only [Act.put, List.setIfInBounds_toArray, List.set_cons_zero, List.set_cons_succ])
    (refine mv_val 29 (v := ?_) rfl (by kernel_rfl) (by kernel_rfl) (by kernel_rfl) (fun _ _ _ h => h) (by rfl) hS ?_ ?_; rotate_left; (focus (intro w hSw; (try dsimp only at hSw); (have f1 := F1 w hSw; have f2 := F2 w hSw; have f3 := F3 w hSw; have f4 := F4 w hSw; have f5 := hsub; have f6 := E3.out; have f7 := hn0; have f8 := h3a; have f9 := hwn); go_simp; first | done | with_reducible rfl)); simp only [Act.put, List.setIfInBounds_toArray, List.set_cons_zero, List.set_cons_succ])
    (refine mv_val 30 (v := ?_) rfl (by kernel_rfl) (by kernel_rfl) (by kernel_rfl) (fun _ _ _ h => h) (by rfl) hS ?_ ?_; rotate_left; (focus (intro w hSw; (try dsimp only at hSw); (have f1 := F1 w hSw; have f2 := F2 w hSw; have f3 := F3 w hSw; have f4 := F4 w hSw; have f5 := hsub; have f6 := E3.out; have f7 := hn0; have f8 := h3a; have f9 := hwn); go_simp; first | done | with_reducible rfl)); simp only [Act.put, List.setIfInBounds_toArray, List.set_cons_zero, List.set_cons_succ])
    (refine mv_val 32 (v := ?_) rfl (by kernel_rfl) (by kernel_rfl) (by kernel_rfl) (fun _ _ _ h => h) (by rfl) hS ?_ ?_; rotate_left; (focus (intro w hSw; (try dsimp only at hSw); (have f1 := F1 w hSw; have f2 := F2 w hSw; have f3 := F3 w hSw; have f4 := F4 w hSw; have f5 := hsub; have f6 := E3.out; have f7 := hn0; have f8 := h3a; have f9 := hwn); go_simp; first | done | with_reducible rfl)); simp only [Act.put, List.setIfInBounds_toArray, List.set_cons_zero, List.set_cons_succ])
    (refine mv_val 33 (v := ?_) rfl (by kernel_rfl) (by kernel_rfl) (by kernel_rfl) (fun _ _ _ h => h) (by rfl) hS ?_ ?_; rotate_left; (focus (intro w hSw; (try dsimp only at hSw); (have f1 := F1 w hSw; have f2 := F2 w hSw; have f3 := F3 w hSw; have f4 := F4 w hSw; have f5 := hsub; have f6 := E3.out; have f7 := hn0; have f8 := h3a; have f9 := hwn); go_simp; first | done | with_reducible rfl)); simp only [Act.put, List.setIfInBounds_toArray, List.set_cons_zero, List.set_cons_succ])
    (refine mv_val 34 (v := ?_) rfl (by kernel_rfl) (by kernel_rfl) (by kernel_rfl) (fun _ _ _ h => h) (by rfl) hS ?_ ?_; rotate_left; (focus (intro w hSw; (try dsimp only at hSw); (have f1 := F1 w hSw; have f2 := F2 w hSw; have f3 := F3 w hSw; have f4 := F4 w hSw; have f5 := hsub; have f6 := E3.out; have f7 := hn0; have f8 := h3a; have f9 := hwn); go_simp; first | done | with_reducible rfl)); simp only [Act.put, List.setIfInBounds_toArray, List.set_cons_zero, List.set_cons_succ])
    (refine mv_call 31 (f := ?_) (args := ?_) rfl (by kernel_rfl) (by rfl) ?_ ?_; rotate_left 2; (focus (go_simp; first | done | with_reducible rfl | (refine ⟨?_, ?_⟩ <;> with_reducible rfl))))
    refine (Hu.out _).mono ?_; rintro e w5 ⟨rfl, hb5⟩
    have hS5 : Below w3.heap.size w3 w5 := hS.trans (hb5.mono hS.size)
    refine ⟨_, rfl, hS5, ?_⟩
    replace hS := hS5
    simp only [Act.put, List.setIfInBounds_toArray, List.set_cons_zero, List.set_cons_succ]
    (refine mv_val 35 (v := ?_) rfl (by kernel_rfl) (by kernel_rfl) (by kernel_rfl) (fun _ _ _ h => h) (by rfl) hS ?_ ?_; rotate_left; (focus (intro w hSw; (try dsimp only at hSw); (have f1 := F1 w hSw; have f2 := F2 w hSw; have f3 := F3 w hSw; have f4 := F4 w hSw; have f5 := hsub; have f6 := E3.out; have f7 := hn0; have f8 := h3a; have f9 := hwn); go_simp; first | done | with_reducible rfl)); simp only [Act.put, List.setIfInBounds_toArray, List.set_cons_zero, List.set_cons_succ])
    (refine mv_val 36 (v := ?_) rfl (by kernel_rfl) (by kernel_rfl) (by kernel_rfl) (fun _ _ _ h => h) (by rfl) hS ?_ ?_; rotate_left; (focus (intro w hSw; (try dsimp only at hSw); (have f1 := F1 w hSw; have f2 := F2 w hSw; have f3 := F3 w hSw; have f4 := F4 w hSw; have f5 := hsub; have f6 := E3.out; have f7 := hn0; have f8 := h3a; have f9 := hwn); go_simp; first | done | with_reducible rfl)); simp only [Act.put, List.setIfInBounds_toArray, List.set_cons_zero, List.set_cons_succ])
    (refine mv_val 37 (v := ?_) rfl (by kernel_rfl) (by kernel_rfl) (by kernel_rfl) (fun _ _ _ h => h) (by rfl) hS ?_ ?_; rotate_left; (focus (intro w hSw; (try dsimp only at hSw); (have f1 := F1 w hSw; have f2 := F2 w hSw; have f3 := F3 w hSw; have f4 := F4 w hSw; have f5 := hsub; have f6 := E3.out; have f7 := hn0; have f8 := h3a; have f9 := hwn); go_simp; first | done | with_reducible rfl)); simp only [Act.put, List.setIfInBounds_toArray, List.set_cons_zero, List.set_cons_succ])
    (refine mv_val 38 (v := ?_) rfl (by kernel_rfl) (by kernel_rfl) (by kernel_rfl) (fun _ _ _ h => h) (by rfl) hS ?_ ?_; rotate_left; (focus (intro w hSw; (try dsimp only at hSw); (have f1 := F1 w hSw; have f2 := F2 w hSw; have f3 := F3 w hSw; have f4 := F4 w hSw; have f5 := hsub; have f6 := E3.out; have f7 := hn0; have f8 := h3a; have f9 := hwn); go_simp; first | done | with_reducible rfl)); simp only [Act.put, List.setIfInBounds_toArray, List.set_cons_zero, List.set_cons_succ])
    (refine mv_val 39 (v := ?_) rfl (by kernel_rfl) (by kernel_rfl) (by kernel_rfl) (fun _ _ _ h => h) (by rfl) hS ?_ ?_; rotate_left; (focus (intro w hSw; (try dsimp only at hSw); (have f1 := F1 w hSw; have f2 := F2 w hSw; have f3 := F3 w hSw; have f4 := F4 w hSw; have f5 := hsub; have f6 := E3.out; have f7 := hn0; have f8 := h3a; have f9 := hwn); go_simp; first | done | with_reducible rfl)); simp only [Act.put, List.setIfInBounds_toArray, List.set_cons_zero, List.set_cons_succ])
    (refine mv_val 40 (v := ?_) rfl (by kernel_rfl) (by kernel_rfl) (by kernel_rfl) (fun _ _ _ h => h) (by rfl) hS ?_ ?_; rotate_left; (focus (intro w hSw; (try dsimp only at hSw); (have f1 := F1 w hSw; have f2 := F2 w hSw; have f3 := F3 w hSw; have f4 := F4 w hSw; have f5 := hsub; have f6 := E3.out; have f7 := hn0; have f8 := h3a; have f9 := hwn); go_simp; first | done | with_reducible rfl)); simp only [Act.put, List.setIfInBounds_toArray, List.set_cons_zero, List.set_cons_succ])
    (refine mv_val 41 (v := ?_) rfl (by kernel_rfl) (by kernel_rfl) (by kernel_rfl) (fun _ _ _ h => h) (by rfl) hS ?_ ?_; rotate_left; (focus (intro w hSw; (try dsimp only at hSw); (have f1 := F1 w hSw; have f2 := F2 w hSw; have f3 := F3 w hSw; have f4 := F4 w hSw; have f5 := hsub; have f6 := E3.out; have f7 := hn0; have f8 := h3a; have f9 := hwn); go_simp; first | done | with_reducible rfl)); simp only [Act.put, List.setIfInBounds_toArray, List.set_cons_zero, List.set_cons_succ])
    (refine mv_skip 42 rfl (by kernel_rfl) (by kernel_rfl) (by kernel_rfl) (fun _ _ _ h => h) (by rfl) hS ?_; simp only [Act.put, List.setIfInBounds_toArray, List.set_cons_zero, List.set_cons_succ])
    (refine mv_skip 43 rfl (by kernel_rfl) (by kernel_rfl) (by kernel_rfl) (fun _ _ _ h => h) (by rfl) hS ?_; simp only [Act.put, List.setIfInBounds_toArray, List.set_cons_zero, List.set_cons_succ])
    (refine mv_skip 44 rfl (by kernel_rfl) (by kernel_rfl) (by kernel_rfl) (fun _ _ _ h => h) (by rfl) hS ?_; simp only [Act.put, List.setIfInBounds_toArray, List.set_cons_zero, List.set_cons_succ])
    (refine mv_skip 45 rfl (by kernel_rfl) (by kernel_rfl) (by kernel_rfl) (fun _ _ _ h => h) (by rfl) hS ?_; simp only [Act.put, List.setIfInBounds_toArray, List.set_cons_zero, List.set_cons_succ])
    (refine mv_skip 46 rfl (by kernel_rfl) (by kernel_rfl) (by kernel_rfl) (fun _ _ _ h => h) (by rfl) hS ?_; simp only [Act.put, List.setIfInBounds_toArray, List.set_cons_zero, List.set_cons_succ])
    (refine mv_val 47 (v := ?_) rfl (by kernel_rfl) (by kernel_rfl) (by kernel_rfl) (fun _ _ _ h => h) (by rfl) hS ?_ ?_; rotate_left; (focus (intro w hSw; (try dsimp only at hSw); (have f1 := F1 w hSw; have f2 := F2 w hSw; have f3 := F3 w hSw; have f4 := F4 w hSw; have f5 := hsub; have f6 := E3.out; have f7 := hn0; have f8 := h3a; have f9 := hwn); go_simp; first | done | with_reducible rfl)); simp only [Act.put, List.setIfInBounds_toArray, List.set_cons_zero, List.set_cons_succ])
    (refine mv_val 48 (v := ?_) rfl (by kernel_rfl) (by kernel_rfl) (by kernel_rfl) (fun _ _ _ h => h) (by rfl) hS ?_ ?_; rotate_left; (focus (intro w hSw; (try dsimp only at hSw); (have f1 := F1 w hSw; have f2 := F2 w hSw; have f3 := F3 w hSw; have f4 := F4 w hSw; have f5 := hsub; have f6 := E3.out; have f7 := hn0; have f8 := h3a; have f9 := hwn); go_simp; first | done | with_reducible rfl)); simp only [Act.put, List.setIfInBounds_toArray, List.set_cons_zero, List.set_cons_succ])
    refine wpAnyH_done (by kernel_rfl) ?_ _
    have zN := hS.size
    by_cases hk1 : k < 1
    · go_wp2_with fail
      refine (wakes9_any _).mono ?_; rintro e w9 ⟨rfl, hb9⟩
      go_wp2_with fail
      go_ret
      exact ⟨rfl, b3'.trans ((hS.trans (hb9.mono zN)).mono (by omega))⟩
    have hk1' : 1 ≤ k := by omega
    by_cases hk2 : (1099511627776 : Int) / n < k
    · go_wp2_with fail
      refine (wakes9_any _).mono ?_; rintro e w9 ⟨rfl, hb9⟩
      go_wp2_with fail
      go_ret
      exact ⟨rfl, b3'.trans ((hS.trans (hb9.mono zN)).mono (by omega))⟩
    have hkm : k * n ≤ 1099511627776 := by
      exact Int.mul_le_of_le_ediv (by omega) (by omega)
    have hkm1 : 1 ≤ n * k := by have := Int.mul_le_mul h3a hk1' (by omega) (by omega); omega
    have hmk : k * n = n * k := Int.mul_comm k n
    obtain ⟨e1, e2, e3, e4, e5, e6⟩ := E4.out hkm1
    have hf3 := fl_bd t (n * k) hkm1
    obtain ⟨m, hm⟩ : ∃ m, m = n * k := ⟨_, rfl⟩
    have hwm : wrap64 (n * k) = m := by rw [hm]; exact IntWalk.wrap64_in _ ⟨by omega, by omega⟩
    rw [← hm] at e1 e2 e3 e4 e5 e6 hkm1 hmk hf3
    obtain ⟨C, hC⟩ : ∃ C, C = fl t m := ⟨_, rfl⟩
    have c1 : bnd t := by unfold bnd; omega
    rw [← hC] at e1 e2 e3 e4 e5 e6 hf3
    have c2 : bnd C := by unfold bnd; omega
    have c3 : bnd (C + m) := by unfold bnd; omega
    have G3 := fun w => bkt_ok (n := m) (t := t) (by omega) (by omega) c1 w
    rw [← hC] at G3
    have z0 : wrg n [C, C + m] = 0 ∧ C < C + m := ⟨wrg_ok2 h3a h3b c2 c3, by omega⟩
    have G4 := Lib.hid (out_ok (x := C) (y := C + m) h3a h3b c2 c3 (by unfold OutF gF; rw [if_pos z0, e1, e2, if_neg (by omega)]) (by unfold OutT gT; rw [if_pos z0, e1, e2, if_neg (by omega)]))
    have G5 := Lib.hid (in_ok (x := C) (y := C + m) h3a h3b c2 c3 (by unfold InF gF; rw [if_pos z0, e3, e4, if_neg (by omega)]) (by unfold InT gT; rw [if_pos z0, e3, e4, if_neg (by omega)]))
    have G6 := Lib.hid (and_ok (a := A) (b := A + n) (c := C) (d := C + m) (x := A) (y := A + n) (by unfold andF; rw [if_neg (by omega)]; omega) (by unfold andT; rw [if_neg (by omega)]; omega))
    have K3 := Lib.hid G3
    clear G3 e1 e2 e3 e4 hC hm E4 z0
    go_wp2_with fail
    refine (K3.out _).mono ?_; rintro e w10 ⟨rfl, hb10⟩
    have hT : Below w3.heap.size w3 w10 := hS.trans (hb10.mono zN)
    have z10 := hT.size
    have y10 : w1.heap.size < w10.heap.size := by omega
    go_wp2_with fail
    refine (G4.out _).mono ?_; rintro e w11 ⟨rfl, hb11⟩
    have z11 := hb11.size; simp at z11
    have hT11 : Below w3.heap.size w3 w11 := (hT.alloc z10 _).trans (hb11.mono (by simp; omega))
    have p1 : w11.cell? ⟨w10.heap.size, 0, none⟩ = some (.int .i64 C) := cell_be (by simp [go_sem]) hb11 (by simp)
    have p2 : w11.cell? ⟨w10.heap.size, 1, none⟩ = some (.int .i64 (C + m)) := cell_be (by simp [go_sem]) hb11 (by simp)
    have y11 : w10.heap.size < w11.heap.size := by omega
    go_wp2_with fail
    refine (G5.out _).mono ?_; rintro e w12 ⟨rfl, hb12⟩
    have z12 := hb12.size; simp at z12
    have hT12 : Below w3.heap.size w3 w12 := (hT11.alloc hT11.size _).trans (hb12.mono (by simp; omega))
    have q1 : w12.cell? ⟨w10.heap.size, 0, none⟩ = some (.int .i64 C) := cell_be (cell_al p1 (by show w10.heap.size < _; omega) _) hb12 (by simp; omega)
    have q2 : w12.cell? ⟨w10.heap.size, 1, none⟩ = some (.int .i64 (C + m)) := cell_be (cell_al p2 (by show w10.heap.size < _; omega) _) hb12 (by simp; omega)
    have q3 : w12.cell? ⟨w11.heap.size, 0, none⟩ = some (.int .i64 C) := cell_be (by simp [go_sem]) hb12 (by simp)
    have q4 : w12.cell? ⟨w11.heap.size, 1, none⟩ = some (.int .i64 (C + m)) := cell_be (by simp [go_sem]) hb12 (by simp)
    obtain ⟨w13, hw13⟩ : ∃ w13, w13 = w12.alloc (.cells #[.int .i64 C, .int .i64 (C + m)] 23) := ⟨_, rfl⟩
    have z13 : w13.heap.size = w12.heap.size + 1 := by rw [hw13]; simp
    have hT13 : Below w3.heap.size w3 w13 := by rw [hw13]; exact hT12.alloc hT12.size _
    have x1 : w13.cell? ⟨w10.heap.size, 0, none⟩ = some (.int .i64 C) := by rw [hw13]; exact cell_al q1 (by show w10.heap.size < _; omega) _
    have x2 : w13.cell? ⟨w10.heap.size, 1, none⟩ = some (.int .i64 (C + m)) := by rw [hw13]; exact cell_al q2 (by show w10.heap.size < _; omega) _
    have x3 : w13.cell? ⟨w11.heap.size, 0, none⟩ = some (.int .i64 C) := by rw [hw13]; exact cell_al q3 (by show w11.heap.size < _; omega) _
    have x4 : w13.cell? ⟨w11.heap.size, 1, none⟩ = some (.int .i64 (C + m)) := by rw [hw13]; exact cell_al q4 (by show w11.heap.size < _; omega) _
    have x5 : w13.cell? ⟨w12.heap.size, 0, none⟩ = some (.int .i64 C) := by rw [hw13]; simp [go_sem]
    have x6 : w13.cell? ⟨w12.heap.size, 1, none⟩ = some (.int .i64 (C + m)) := by rw [hw13]; simp [go_sem]
    have J : ∀ w', Below w13.heap.size w13 w' → (w'.cell? ⟨w1.heap.size, 0, none⟩ = some (.int .i64 A) ∧ w'.cell? ⟨w1.heap.size, 1, none⟩ = some (.int .i64 (A + n)) ∧ w'.cell? ⟨w10.heap.size, 0, none⟩ = some (.int .i64 C) ∧ w'.cell? ⟨w10.heap.size, 1, none⟩ = some (.int .i64 (C + m)) ∧ w'.cell? ⟨w11.heap.size, 0, none⟩ = some (.int .i64 C) ∧ w'.cell? ⟨w11.heap.size, 1, none⟩ = some (.int .i64 (C + m)) ∧ w'.cell? ⟨w12.heap.size, 0, none⟩ = some (.int .i64 C) ∧ w'.cell? ⟨w12.heap.size, 1, none⟩ = some (.int .i64 (C + m))) := fun w' h =>
      ⟨F1 w' (hT13.trans (h.mono hT13.size)), F2 w' (hT13.trans (h.mono hT13.size)), cell_be x1 h (by show w10.heap.size < _; omega), cell_be x2 h (by show w10.heap.size < _; omega), cell_be x3 h (by show w11.heap.size < _; omega), cell_be x4 h (by show w11.heap.size < _; omega), cell_be x5 h (by show w12.heap.size < _; omega), cell_be x6 h (by show w12.heap.size < _; omega)⟩
    clear hS zN hT z10 p1 p2 q1 q2 q3 q4 x1 x2 x3 x4 x5 x6
    go_wp2_with fail
    rw [← hw13]
    refine ah_start 31 (fun w' => Below w13.heap.size w13 w') rfl (by kernel_rfl) (Below.refl _ _).drew ?_
    intro hS
    (refine mv_val 0 (v := ?_) rfl (by kernel_rfl) (by kernel_rfl) (by kernel_rfl) (fun _ _ _ h => h) (by rfl) hS ?_ ?_; rotate_left; (focus (intro w hSw; (try dsimp only at hSw); (have f1 := J w hSw); go_simp; first | done | with_reducible rfl)); simp only [Act.put, List.setIfInBounds_toArray, List.set_cons_zero, List.set_cons_succ])
    (refine mv_val 1 (v := ?_) rfl (by kernel_rfl) (by kernel_rfl) (by kernel_rfl) (fun _ _ _ h => h) (by rfl) hS ?_ ?_; rotate_left; (focus (intro w hSw; (try dsimp only at hSw); (have f1 := J w hSw); go_simp; first | done | with_reducible rfl)); simp only [Act.put, List.setIfInBounds_toArray, List.set_cons_zero, List.set_cons_succ])
    (refine mv_val 2 (v := ?_) rfl (by kernel_rfl) (by kernel_rfl) (by kernel_rfl) (fun _ _ _ h => h) (by rfl) hS ?_ ?_; rotate_left; (focus (intro w hSw; (try dsimp only at hSw); (have f1 := J w hSw); go_simp; first | done | with_reducible rfl)); simp only [Act.put, List.setIfInBounds_toArray, List.set_cons_zero, List.set_cons_succ])
    (refine mv_val 3 (v := ?_) rfl (by kernel_rfl) (by kernel_rfl) (by kernel_rfl) (fun _ _ _ h => h) (by rfl) hS ?_ ?_; rotate_left; (focus (intro w hSw; (try dsimp only at hSw); (have f1 := J w hSw); go_simp; first | done | with_reducible rfl)); simp only [Act.put, List.setIfInBounds_toArray, List.set_cons_zero, List.set_cons_succ])
    (refine mv_val 4 (v := ?_) rfl (by kernel_rfl) (by kernel_rfl) (by kernel_rfl) (fun _ _ _ h => h) (by rfl) hS ?_ ?_; rotate_left; (focus (intro w hSw; (try dsimp only at hSw); (have f1 := J w hSw); go_simp; first | done | with_reducible rfl)); simp only [Act.put, List.setIfInBounds_toArray, List.set_cons_zero, List.set_cons_succ])
    (refine mv_val 5 (v := ?_) rfl (by kernel_rfl) (by kernel_rfl) (by kernel_rfl) (fun _ _ _ h => h) (by rfl) hS ?_ ?_; rotate_left; (focus (intro w hSw; (try dsimp only at hSw); (have f1 := J w hSw); go_simp; first | done | with_reducible rfl)); simp only [Act.put, List.setIfInBounds_toArray, List.set_cons_zero, List.set_cons_succ])
    (refine mv_val 6 (v := ?_) rfl (by kernel_rfl) (by kernel_rfl) (by kernel_rfl) (fun _ _ _ h => h) (by rfl) hS ?_ ?_; rotate_left; (focus (intro w hSw; (try dsimp only at hSw); (have f1 := J w hSw); go_simp; first | done | with_reducible rfl)); simp only [Act.put, List.setIfInBounds_toArray, List.set_cons_zero, List.set_cons_succ])
    (refine mv_val 7 (v := ?_) rfl (by kernel_rfl) (by kernel_rfl) (by kernel_rfl) (fun _ _ _ h => h) (by rfl) hS ?_ ?_; rotate_left; (focus (intro w hSw; (try dsimp only at hSw); (have f1 := J w hSw); go_simp; first | done | with_reducible rfl)); simp only [Act.put, List.setIfInBounds_toArray, List.set_cons_zero, List.set_cons_succ])
    (refine mv_val 8 (v := ?_) rfl (by kernel_rfl) (by kernel_rfl) (by kernel_rfl) (fun _ _ _ h => h) (by rfl) hS ?_ ?_; rotate_left; (focus (intro w hSw; (try dsimp only at hSw); (have f1 := J w hSw); go_simp; first | done | with_reducible rfl)); simp only [Act.put, List.setIfInBounds_toArray, List.set_cons_zero, List.set_cons_succ])
    (refine mv_val 9 (v := ?_) rfl (by kernel_rfl) (by kernel_rfl) (by kernel_rfl) (fun _ _ _ h => h) (by rfl) hS ?_ ?_; rotate_left; (focus (intro w hSw; (try dsimp only at hSw); (have f1 := J w hSw); go_simp; first | done | with_reducible rfl)); simp only [Act.put, List.setIfInBounds_toArray, List.set_cons_zero, List.set_cons_succ])
    (refine mv_val 10 (v := ?_) rfl (by kernel_rfl) (by kernel_rfl) (by kernel_rfl) (fun _ _ _ h => h) (by rfl) hS ?_ ?_; rotate_left; (focus (intro w hSw; (try dsimp only at hSw); (have f1 := J w hSw); go_simp; first | done | with_reducible rfl)); simp only [Act.put, List.setIfInBounds_toArray, List.set_cons_zero, List.set_cons_succ])
    (refine mv_val 11 (v := ?_) rfl (by kernel_rfl) (by kernel_rfl) (by kernel_rfl) (fun _ _ _ h => h) (by rfl) hS ?_ ?_; rotate_left; (focus (intro w hSw; (try dsimp only at hSw); (have f1 := J w hSw); go_simp; first | done | with_reducible rfl)); simp only [Act.put, List.setIfInBounds_toArray, List.set_cons_zero, List.set_cons_succ])
    (refine mv_val 12 (v := ?_) rfl (by kernel_rfl) (by kernel_rfl) (by kernel_rfl) (fun _ _ _ h => h) (by rfl) hS ?_ ?_; rotate_left; (focus (intro w hSw; (try dsimp only at hSw); (have f1 := J w hSw); go_simp; first | done | with_reducible rfl)); simp only [Act.put, List.setIfInBounds_toArray, List.set_cons_zero, List.set_cons_succ])
    (refine mv_val 13 (v := ?_) rfl (by kernel_rfl) (by kernel_rfl) (by kernel_rfl) (fun _ _ _ h => h) (by rfl) hS ?_ ?_; rotate_left; (focus (intro w hSw; (try dsimp only at hSw); (have f1 := J w hSw); go_simp; first | done | with_reducible rfl)); simp only [Act.put, List.setIfInBounds_toArray, List.set_cons_zero, List.set_cons_succ])
    (refine mv_val 14 (v := ?_) rfl (by kernel_rfl) (by kernel_rfl) (by kernel_rfl) (fun _ _ _ h => h) (by rfl) hS ?_ ?_; rotate_left; (focus (intro w hSw; (try dsimp only at hSw); (have f1 := J w hSw); go_simp; first | done | with_reducible rfl)); simp only [Act.put, List.setIfInBounds_toArray, List.set_cons_zero, List.set_cons_succ])
    (refine mv_val 15 (v := ?_) rfl (by kernel_rfl) (by kernel_rfl) (by kernel_rfl) (fun _ _ _ h => h) (by rfl) hS ?_ ?_; rotate_left; (focus (intro w hSw; (try dsimp only at hSw); (have f1 := J w hSw); go_simp; first | done | with_reducible rfl)); simp only [Act.put, List.setIfInBounds_toArray, List.set_cons_zero, List.set_cons_succ])
    (refine mv_val 16 (v := ?_) rfl (by kernel_rfl) (by kernel_rfl) (by kernel_rfl) (fun _ _ _ h => h) (by rfl) hS ?_ ?_; rotate_left; (focus (intro w hSw; (try dsimp only at hSw); (have f1 := J w hSw); go_simp; first | done | with_reducible rfl)); simp only [Act.put, List.setIfInBounds_toArray, List.set_cons_zero, List.set_cons_succ])
    (refine mv_val 17 (v := ?_) rfl (by kernel_rfl) (by kernel_rfl) (by kernel_rfl) (fun _ _ _ h => h) (by rfl) hS ?_ ?_; rotate_left; (focus (intro w hSw; (try dsimp only at hSw); (have f1 := J w hSw); go_simp; first | done | with_reducible rfl)); simp only [Act.put, List.setIfInBounds_toArray, List.set_cons_zero, List.set_cons_succ])
    (refine mv_val 18 (v := ?_) rfl (by kernel_rfl) (by kernel_rfl) (by kernel_rfl) (fun _ _ _ h => h) (by rfl) hS ?_ ?_; rotate_left; (focus (intro w hSw; (try dsimp only at hSw); (have f1 := J w hSw); go_simp; first | done | with_reducible rfl)); simp only [Act.put, List.setIfInBounds_toArray, List.set_cons_zero, List.set_cons_succ])
    (refine mv_val 19 (v := ?_) rfl (by kernel_rfl) (by kernel_rfl) (by kernel_rfl) (fun _ _ _ h => h) (by rfl) hS ?_ ?_; rotate_left; (focus (intro w hSw; (try dsimp only at hSw); (have f1 := J w hSw); go_simp; first | done | with_reducible rfl)); simp only [Act.put, List.setIfInBounds_toArray, List.set_cons_zero, List.set_cons_succ])
    (refine mv_val 20 (v := ?_) rfl (by kernel_rfl) (by kernel_rfl) (by kernel_rfl) (fun _ _ _ h => h) (by rfl) hS ?_ ?_; rotate_left; (focus (intro w hSw; (try dsimp only at hSw); (have f1 := J w hSw); go_simp; first | done | with_reducible rfl)); simp only [Act.put, List.setIfInBounds_toArray, List.set_cons_zero, List.set_cons_succ])
    (refine mv_val 21 (v := ?_) rfl (by kernel_rfl) (by kernel_rfl) (by kernel_rfl) (fun _ _ _ h => h) (by rfl) hS ?_ ?_; rotate_left; (focus (intro w hSw; (try dsimp only at hSw); (have f1 := J w hSw); go_simp; first | done | with_reducible rfl)); simp only [Act.put, List.setIfInBounds_toArray, List.set_cons_zero, List.set_cons_succ])
    (refine mv_val 22 (v := ?_) rfl (by kernel_rfl) (by kernel_rfl) (by kernel_rfl) (fun _ _ _ h => h) (by rfl) hS ?_ ?_; rotate_left; (focus (intro w hSw; (try dsimp only at hSw); (have f1 := J w hSw); go_simp; first | done | with_reducible rfl)); simp only [Act.put, List.setIfInBounds_toArray, List.set_cons_zero, List.set_cons_succ])
    (refine mv_val 24 (v := ?_) rfl (by kernel_rfl) (by kernel_rfl) (by kernel_rfl) (fun _ _ _ h => h) (by rfl) hS ?_ ?_; rotate_left; (focus (intro w hSw; (try dsimp only at hSw); (have f1 := J w hSw); go_simp; first | done | with_reducible rfl)); simp only [Act.put, List.setIfInBounds_toArray, List.set_cons_zero, List.set_cons_succ])
    (refine mv_call 23 (f := ?_) (args := ?_) rfl (by kernel_rfl) (by rfl) ?_ ?_; rotate_left 2; (focus (go_simp; first | done | with_reducible rfl | (refine ⟨?_, ?_⟩ <;> with_reducible rfl))))
    refine (G6.out _).mono ?_; rintro e w14 ⟨rfl, hb14⟩
    have hS14 : Below w13.heap.size w13 w14 := hS.trans (hb14.mono hS.size)
    refine ⟨_, rfl, hS14, ?_⟩
    replace hS := hS14
    simp only [Act.put, List.setIfInBounds_toArray, List.set_cons_zero, List.set_cons_succ]
    (refine mv_val 25 (v := ?_) rfl (by kernel_rfl) (by kernel_rfl) (by kernel_rfl) (fun _ _ _ h => h) (by rfl) hS ?_ ?_; rotate_left; (focus (intro w hSw; (try dsimp only at hSw); (have f1 := J w hSw); go_simp; first | done | with_reducible rfl)); simp only [Act.put, List.setIfInBounds_toArray, List.set_cons_zero, List.set_cons_succ])
    (refine mv_val 26 (v := ?_) rfl (by kernel_rfl) (by kernel_rfl) (by kernel_rfl) (fun _ _ _ h => h) (by rfl) hS ?_ ?_; rotate_left; (focus (intro w hSw; (try dsimp only at hSw); (have f1 := J w hSw); go_simp; first | done | with_reducible rfl)); simp only [Act.put, List.setIfInBounds_toArray, List.set_cons_zero, List.set_cons_succ])
    (refine mv_val 27 (v := ?_) rfl (by kernel_rfl) (by kernel_rfl) (by kernel_rfl) (fun _ _ _ h => h) (by rfl) hS ?_ ?_; rotate_left; (focus (intro w hSw; (try dsimp only at hSw); (have f1 := J w hSw); go_simp; first | done | with_reducible rfl)); simp only [Act.put, List.setIfInBounds_toArray, List.set_cons_zero, List.set_cons_succ])
    (refine mv_call 28 (f := ?_) (args := ?_) rfl (by kernel_rfl) (by rfl) ?_ ?_; rotate_left 2; (focus (go_simp; first | done | with_reducible rfl | (refine ⟨?_, ?_⟩ <;> with_reducible rfl))))
    refine (wakes9_any _).mono ?_; rintro e w15 ⟨rfl, hb15⟩
    have hS15 : Below w13.heap.size w13 w15 := hS.trans (hb15.mono hS.size)
    refine ⟨_, rfl, hS15, ?_⟩
    replace hS := hS15
    simp only [Act.put, List.setIfInBounds_toArray, List.set_cons_zero, List.set_cons_succ]
    (refine mv_val 29 (v := ?_) rfl (by kernel_rfl) (by kernel_rfl) (by kernel_rfl) (fun _ _ _ h => h) (by rfl) hS ?_ ?_; rotate_left; (focus (intro w hSw; (try dsimp only at hSw); (have f1 := J w hSw); go_simp; first | done | with_reducible rfl)); simp only [Act.put, List.setIfInBounds_toArray, List.set_cons_zero, List.set_cons_succ])
    (refine mv_val 30 (v := ?_) rfl (by kernel_rfl) (by kernel_rfl) (by kernel_rfl) (fun _ _ _ h => h) (by rfl) hS ?_ ?_; rotate_left; (focus (intro w hSw; (try dsimp only at hSw); (have f1 := J w hSw); go_simp; first | done | with_reducible rfl)); simp only [Act.put, List.setIfInBounds_toArray, List.set_cons_zero, List.set_cons_succ])
    refine wpAnyH_done (by kernel_rfl) ?_ _
    go_wp2_with fail
    go_ret
    exact ⟨rfl, b3'.trans ((hT13.trans (hS.mono hT13.size)).mono (by omega))⟩
  · have Hu := Lib.hid (has_ok (f := A) (t := A + n) (x := u) (b := false) (by have := E1.out; simp only [decide_eq_false_iff_not]; rw [this]; exact hAB))
    have Ha := Lib.hid (and_ok (E2.out hAB).1 (E2.out hAB).2)
    have He := Lib.hid (fun w => empty_any 0 0 w)
    refine ah_start 49 (fun w' => Below w3.heap.size w3 w') rfl (by kernel_rfl) (Below.refl _ _).drew ?_
    intro hS
    (refine mv_val 0 (v := ?_) rfl (by kernel_rfl) (by kernel_rfl) (by kernel_rfl) (fun _ _ _ h => h) (by rfl) hS ?_ ?_; rotate_left; (focus (intro w hSw; (try dsimp only at hSw); (have f1 := F1 w hSw; have f2 := F2 w hSw; have f3 := F3 w hSw; have f4 := F4 w hSw; have f5 := hsub; have f6 := E3.out; have f7 := hn0; have f8 := h3a; have f9 := hwn; have f10 := hAB); go_simp; first | done | with_reducible rfl)); simp only [Act.put, List.setIfInBounds_toArray, List.set_cons_zero, List.set_cons_succ])
    (refine mv_val 1 (v := ?_) rfl (by kernel_rfl) (by kernel_rfl) (by kernel_rfl) (fun _ _ _ h => h) (by rfl) hS ?_ ?_; rotate_left; (focus (intro w hSw; (try dsimp only at hSw); (have f1 := F1 w hSw; have f2 := F2 w hSw; have f3 := F3 w hSw; have f4 := F4 w hSw; have f5 := hsub; have f6 := E3.out; have f7 := hn0; have f8 := h3a; have f9 := hwn; have f10 := hAB); go_simp; first | done | with_reducible rfl)); simp only [Act.put, List.setIfInBounds_toArray, List.set_cons_zero, List.set_cons_succ])
    (refine mv_val 2 (v := ?_) rfl (by kernel_rfl) (by kernel_rfl) (by kernel_rfl) (fun _ _ _ h => h) (by rfl) hS ?_ ?_; rotate_left; (focus (intro w hSw; (try dsimp only at hSw); (have f1 := F1 w hSw; have f2 := F2 w hSw; have f3 := F3 w hSw; have f4 := F4 w hSw; have f5 := hsub; have f6 := E3.out; have f7 := hn0; have f8 := h3a; have f9 := hwn; have f10 := hAB); go_simp; first | done | with_reducible rfl)); simp only [Act.put, List.setIfInBounds_toArray, List.set_cons_zero, List.set_cons_succ])
    (refine mv_val 3 (v := ?_) rfl (by kernel_rfl) (by kernel_rfl) (by kernel_rfl) (fun _ _ _ h => h) (by rfl) hS ?_ ?_; rotate_left; (focus (intro w hSw; (try dsimp only at hSw); (have f1 := F1 w hSw; have f2 := F2 w hSw; have f3 := F3 w hSw; have f4 := F4 w hSw; have f5 := hsub; have f6 := E3.out; have f7 := hn0; have f8 := h3a; have f9 := hwn; have f10 := hAB); go_simp; first | done | with_reducible rfl)); simp only [Act.put, List.setIfInBounds_toArray, List.set_cons_zero, List.set_cons_succ])
    (refine mv_val 4 (v := ?_) rfl (by kernel_rfl) (by kernel_rfl) (by kernel_rfl) (fun _ _ _ h => h) (by rfl) hS ?_ ?_; rotate_left; (focus (intro w hSw; (try dsimp only at hSw); (have f1 := F1 w hSw; have f2 := F2 w hSw; have f3 := F3 w hSw; have f4 := F4 w hSw; have f5 := hsub; have f6 := E3.out; have f7 := hn0; have f8 := h3a; have f9 := hwn; have f10 := hAB); go_simp; first | done | with_reducible rfl)); simp only [Act.put, List.setIfInBounds_toArray, List.set_cons_zero, List.set_cons_succ])
    (refine mv_val 5 (v := ?_) rfl (by kernel_rfl) (by kernel_rfl) (by kernel_rfl) (fun _ _ _ h => h) (by rfl) hS ?_ ?_; rotate_left; (focus (intro w hSw; (try dsimp only at hSw); (have f1 := F1 w hSw; have f2 := F2 w hSw; have f3 := F3 w hSw; have f4 := F4 w hSw; have f5 := hsub; have f6 := E3.out; have f7 := hn0; have f8 := h3a; have f9 := hwn; have f10 := hAB); go_simp; first | done | with_reducible rfl)); simp only [Act.put, List.setIfInBounds_toArray, List.set_cons_zero, List.set_cons_succ])
    (refine mv_val 6 (v := ?_) rfl (by kernel_rfl) (by kernel_rfl) (by kernel_rfl) (fun _ _ _ h => h) (by rfl) hS ?_ ?_; rotate_left; (focus (intro w hSw; (try dsimp only at hSw); (have f1 := F1 w hSw; have f2 := F2 w hSw; have f3 := F3 w hSw; have f4 := F4 w hSw; have f5 := hsub; have f6 := E3.out; have f7 := hn0; have f8 := h3a; have f9 := hwn; have f10 := hAB); go_simp; first | done | with_reducible rfl)); simp only [Act.put, List.setIfInBounds_toArray, List.set_cons_zero, List.set_cons_succ])
    (refine mv_val 7 (v := ?_) rfl (by kernel_rfl) (by kernel_rfl) (by kernel_rfl) (fun _ _ _ h => h) (by rfl) hS ?_ ?_; rotate_left; (focus (intro w hSw; (try dsimp only at hSw); (have f1 := F1 w hSw; have f2 := F2 w hSw; have f3 := F3 w hSw; have f4 := F4 w hSw; have f5 := hsub; have f6 := E3.out; have f7 := hn0; have f8 := h3a; have f9 := hwn; have f10 := hAB); go_simp; first | done | with_reducible rfl)); simp only [Act.put, List.setIfInBounds_toArray, List.set_cons_zero, List.set_cons_succ])
    (refine mv_val 8 (v := ?_) rfl (by kernel_rfl) (by kernel_rfl) (by kernel_rfl) (fun _ _ _ h => h) (by rfl) hS ?_ ?_; rotate_left; (focus (intro w hSw; (try dsimp only at hSw); (have f1 := F1 w hSw; have f2 := F2 w hSw; have f3 := F3 w hSw; have f4 := F4 w hSw; have f5 := hsub; have f6 := E3.out; have f7 := hn0; have f8 := h3a; have f9 := hwn; have f10 := hAB); go_simp; first | done | with_reducible rfl)); simp only [Act.put, List.setIfInBounds_toArray, List.set_cons_zero, List.set_cons_succ])
    (refine mv_call 9 (f := ?_) (args := ?_) rfl (by kernel_rfl) (by rfl) ?_ ?_; rotate_left 2; (focus (go_simp; first | done | with_reducible rfl | (refine ⟨?_, ?_⟩ <;> with_reducible rfl))))
    refine (Ht.out _).mono ?_; rintro e w4 ⟨rfl, hb4⟩
    have hS4 : Below w3.heap.size w3 w4 := hS.trans (hb4.mono hS.size)
    refine ⟨_, rfl, hS4, ?_⟩
    replace hS := hS4
    simp only [Act.put, List.setIfInBounds_toArray, List.set_cons_zero, List.set_cons_succ]
    (refine mv_val 10 (v := ?_) rfl (by kernel_rfl) (by kernel_rfl) (by kernel_rfl) (fun _ _ _ h => h) (by rfl) hS ?_ ?_; rotate_left; (focus (intro w hSw; (try dsimp only at hSw); (have f1 := F1 w hSw; have f2 := F2 w hSw; have f3 := F3 w hSw; have f4 := F4 w hSw; have f5 := hsub; have f6 := E3.out; have f7 := hn0; have f8 := h3a; have f9 := hwn; have f10 := hAB); go_simp; first | done | with_reducible rfl)); simp only [Act.put, List.setIfInBounds_toArray, List.set_cons_zero, List.set_cons_succ])
    (refine mv_val 11 (v := ?_) rfl (by kernel_rfl) (by kernel_rfl) (by kernel_rfl) (fun _ _ _ h => h) (by rfl) hS ?_ ?_; rotate_left; (focus (intro w hSw; (try dsimp only at hSw); (have f1 := F1 w hSw; have f2 := F2 w hSw; have f3 := F3 w hSw; have f4 := F4 w hSw; have f5 := hsub; have f6 := E3.out; have f7 := hn0; have f8 := h3a; have f9 := hwn; have f10 := hAB); go_simp; first | done | with_reducible rfl)); simp only [Act.put, List.setIfInBounds_toArray, List.set_cons_zero, List.set_cons_succ])
    (refine mv_val 12 (v := ?_) rfl (by kernel_rfl) (by kernel_rfl) (by kernel_rfl) (fun _ _ _ h => h) (by rfl) hS ?_ ?_; rotate_left; (focus (intro w hSw; (try dsimp only at hSw); (have f1 := F1 w hSw; have f2 := F2 w hSw; have f3 := F3 w hSw; have f4 := F4 w hSw; have f5 := hsub; have f6 := E3.out; have f7 := hn0; have f8 := h3a; have f9 := hwn; have f10 := hAB); go_simp; first | done | with_reducible rfl)); simp only [Act.put, List.setIfInBounds_toArray, List.set_cons_zero, List.set_cons_succ])
    (refine mv_val 13 (v := ?_) rfl (by kernel_rfl) (by kernel_rfl) (by kernel_rfl) (fun _ _ _ h => h) (by rfl) hS ?_ ?_; rotate_left; (focus (intro w hSw; (try dsimp only at hSw); (have f1 := F1 w hSw; have f2 := F2 w hSw; have f3 := F3 w hSw; have f4 := F4 w hSw; have f5 := hsub; have f6 := E3.out; have f7 := hn0; have f8 := h3a; have f9 := hwn; have f10 := hAB); go_simp; first | done | with_reducible rfl)); simp only [Act.put, List.setIfInBounds_toArray, List.set_cons_zero, List.set_cons_succ])
    (refine mv_val 14 (v := ?_) rfl (by kernel_rfl) (by kernel_rfl) (by kernel_rfl) (fun _ _ _ h => h) (by rfl) hS ?_ ?_; rotate_left; (focus (intro w hSw; (try dsimp only at hSw); (have f1 := F1 w hSw; have f2 := F2 w hSw; have f3 := F3 w hSw; have f4 := F4 w hSw; have f5 := hsub; have f6 := E3.out; have f7 := hn0; have f8 := h3a; have f9 := hwn; have f10 := hAB); go_simp; first | done | with_reducible rfl)); simp only [Act.put, List.setIfInBounds_toArray, List.set_cons_zero, List.set_cons_succ])
    (refine mv_val 15 (v := ?_) rfl (by kernel_rfl) (by kernel_rfl) (by kernel_rfl) (fun _ _ _ h => h) (by rfl) hS ?_ ?_; rotate_left; (focus (intro w hSw; (try dsimp only at hSw); (have f1 := F1 w hSw; have f2 := F2 w hSw; have f3 := F3 w hSw; have f4 := F4 w hSw; have f5 := hsub; have f6 := E3.out; have f7 := hn0; have f8 := h3a; have f9 := hwn; have f10 := hAB); go_simp; first | done | with_reducible rfl)); simp only [Act.put, List.setIfInBounds_toArray, List.set_cons_zero, List.set_cons_succ])
    (refine mv_val 16 (v := ?_) rfl (by kernel_rfl) (by kernel_rfl) (by kernel_rfl) (fun _ _ _ h => h) (by rfl) hS ?_ ?_; rotate_left; (focus (intro w hSw; (try dsimp only at hSw); (have f1 := F1 w hSw; have f2 := F2 w hSw; have f3 := F3 w hSw; have f4 := F4 w hSw; have f5 := hsub; have f6 := E3.out; have f7 := hn0; have f8 := h3a; have f9 := hwn; have f10 := hAB); go_simp; first | done | with_reducible rfl)); simp only [Act.put, List.setIfInBounds_toArray, List.set_cons_zero, List.set_cons_succ])
    (refine mv_val 17 (v := ?_) rfl (by kernel_rfl) (by kernel_rfl) (by kernel_rfl) (fun _ _ _ h => h) (by rfl) hS ?_ ?_; rotate_left; (focus (intro w hSw; (try dsimp only at hSw); (have f1 := F1 w hSw; have f2 := F2 w hSw; have f3 := F3 w hSw; have f4 := F4 w hSw; have f5 := hsub; have f6 := E3.out; have f7 := hn0; have f8 := h3a; have f9 := hwn; have f10 := hAB); go_simp; first | done | with_reducible rfl)); simp only [Act.put, List.setIfInBounds_toArray, List.set_cons_zero, List.set_cons_succ])
    (refine mv_val 18 (v := ?_) rfl (by kernel_rfl) (by kernel_rfl) (by kernel_rfl) (fun _ _ _ h => h) (by rfl) hS ?_ ?_; rotate_left; (focus (intro w hSw; (try dsimp only at hSw); (have f1 := F1 w hSw; have f2 := F2 w hSw; have f3 := F3 w hSw; have f4 := F4 w hSw; have f5 := hsub; have f6 := E3.out; have f7 := hn0; have f8 := h3a; have f9 := hwn; have f10 := hAB); go_simp; first | done | with_reducible rfl)); simp only [Act.put, List.setIfInBounds_toArray, List.set_cons_zero, List.set_cons_succ])
    (refine mv_val 19 (v := ?_) rfl (by kernel_rfl) (by kernel_rfl) (by kernel_rfl) (fun _ _ _ h => h) (by rfl) hS ?_ ?_; rotate_left; (focus (intro w hSw; (try dsimp only at hSw); (have f1 := F1 w hSw; have f2 := F2 w hSw; have f3 := F3 w hSw; have f4 := F4 w hSw; have f5 := hsub; have f6 := E3.out; have f7 := hn0; have f8 := h3a; have f9 := hwn; have f10 := hAB); go_simp; first | done | with_reducible rfl)); simp only [Act.put, List.setIfInBounds_toArray, List.set_cons_zero, List.set_cons_succ])
    (refine mv_val 20 (v := ?_) rfl (by kernel_rfl) (by kernel_rfl) (by kernel_rfl) (fun _ _ _ h => h) (by rfl) hS ?_ ?_; rotate_left; (focus (intro w hSw; (try dsimp only at hSw); (have f1 := F1 w hSw; have f2 := F2 w hSw; have f3 := F3 w hSw; have f4 := F4 w hSw; have f5 := hsub; have f6 := E3.out; have f7 := hn0; have f8 := h3a; have f9 := hwn; have f10 := hAB); go_simp; first | done | with_reducible rfl)); simp only [Act.put, List.setIfInBounds_toArray, List.set_cons_zero, List.set_cons_succ])
    (refine mv_val 21 (v := ?_) rfl (by kernel_rfl) (by kernel_rfl) (by kernel_rfl) (fun _ _ _ h => h) (by rfl) hS ?_ ?_; rotate_left; (focus (intro w hSw; (try dsimp only at hSw); (have f1 := F1 w hSw; have f2 := F2 w hSw; have f3 := F3 w hSw; have f4 := F4 w hSw; have f5 := hsub; have f6 := E3.out; have f7 := hn0; have f8 := h3a; have f9 := hwn; have f10 := hAB); go_simp; first | done | with_reducible rfl)); simp only [Act.put, List.setIfInBounds_toArray, List.set_cons_zero, List.set_cons_succ])
    (refine mv_val 22 (v := ?_) rfl (by kernel_rfl) (by kernel_rfl) (by kernel_rfl) (fun _ _ _ h => h) (by rfl) hS ?_ ?_; rotate_left; (focus (intro w hSw; (try dsimp only at hSw); (have f1 := F1 w hSw; have f2 := F2 w hSw; have f3 := F3 w hSw; have f4 := F4 w hSw; have f5 := hsub; have f6 := E3.out; have f7 := hn0; have f8 := h3a; have f9 := hwn; have f10 := hAB); go_simp; first | done | with_reducible rfl)); simp only [Act.put, List.setIfInBounds_toArray, List.set_cons_zero, List.set_cons_succ])
    (refine mv_val 23 (v := ?_) rfl (by kernel_rfl) (by kernel_rfl) (by kernel_rfl) (fun _ _ _ h => h) (by rfl) hS ?_ ?_; rotate_left; (focus (intro w hSw; (try dsimp only at hSw); (have f1 := F1 w hSw; have f2 := F2 w hSw; have f3 := F3 w hSw; have f4 := F4 w hSw; have f5 := hsub; have f6 := E3.out; have f7 := hn0; have f8 := h3a; have f9 := hwn; have f10 := hAB); go_simp; first | done | with_reducible rfl)); simp only [Act.put, List.setIfInBounds_toArray, List.set_cons_zero, List.set_cons_succ])
    (refine mv_val 24 (v := ?_) rfl (by kernel_rfl) (by kernel_rfl) (by kernel_rfl) (fun _ _ _ h => h) (by rfl) hS ?_ ?_; rotate_left; (focus (intro w hSw; (try dsimp only at hSw); (have f1 := F1 w hSw; have f2 := F2 w hSw; have f3 := F3 w hSw; have f4 := F4 w hSw; have f5 := hsub; have f6 := E3.out; have f7 := hn0; have f8 := h3a; have f9 := hwn; have f10 := hAB); go_simp; first | done | with_reducible rfl)); simp only [Act.put, List.setIfInBounds_toArray, List.set_cons_zero, List.set_cons_succ])
    (refine mv_val 25 (v := ?_) rfl (by kernel_rfl) (by kernel_rfl) (by kernel_rfl) (fun _ _ _ h => h) (by rfl) hS ?_ ?_; rotate_left; (focus (intro w hSw; (try dsimp only at hSw); (have f1 := F1 w hSw; have f2 := F2 w hSw; have f3 := F3 w hSw; have f4 := F4 w hSw; have f5 := hsub; have f6 := E3.out; have f7 := hn0; have f8 := h3a; have f9 := hwn; have f10 := hAB); go_simp; first | done | with_reducible rfl)); simp only [Act.put, List.setIfInBounds_toArray, List.set_cons_zero, List.set_cons_succ])
    (refine mv_val 26 (v := ?_) rfl (by kernel_rfl) (by kernel_rfl) (by kernel_rfl) (fun _ _ _ h => h) (by rfl) hS ?_ ?_; rotate_left; (focus (intro w hSw; (try dsimp only at hSw); (have f1 := F1 w hSw; have f2 := F2 w hSw; have f3 := F3 w hSw; have f4 := F4 w hSw; have f5 := hsub; have f6 := E3.out; have f7 := hn0; have f8 := h3a; have f9 := hwn; have f10 := hAB); go_simp; first | done | with_reducible rfl)); simp only [Act.put, List.setIfInBounds_toArray, List.set_cons_zero, List.set_cons_succ])
    (refine mv_val 27 (v := ?_) rfl (by kernel_rfl) (by kernel_rfl) (by kernel_rfl) (fun _ _ _ h => h) (by rfl) hS ?_ ?_; rotate_left; (focus (intro w hSw; (try dsimp only at hSw); (have f1 := F1 w hSw; have f2 := F2 w hSw; have f3 := F3 w hSw; have f4 := F4 w hSw; have f5 := hsub; have f6 := E3.out; have f7 := hn0; have f8 := h3a; have f9 := hwn; have f10 := hAB); go_simp; first | done | with_reducible rfl)); simp only [Act.put, List.setIfInBounds_toArray, List.set_cons_zero, List.set_cons_succ])
    (refine mv_val 28 (v := ?_) rfl (by kernel_rfl) (by kernel_rfl) (by kernel_rfl) (fun _ _ _ h => h) (by rfl) hS ?_ ?_; rotate_left; (focus (intro w hSw; (try dsimp only at hSw); (have f1 := F1 w hSw; have f2 := F2 w hSw; have f3 := F3 w hSw; have f4 := F4 w hSw; have f5 := hsub; have f6 := E3.out; have f7 := hn0; have f8 := h3a; have f9 := hwn; have f10 := hAB); go_simp; first | done | with_reducible rfl)); simp only [Act.put, List.setIfInBounds_toArray, List.set_cons_zero, List.set_cons_succ])
    (refine mv_val 29 (v := ?_) rfl (by kernel_rfl) (by kernel_rfl) (by kernel_rfl) (fun _ _ _ h => h) (by rfl) hS ?_ ?_; rotate_left; (focus (intro w hSw; (try dsimp only at hSw); (have f1 := F1 w hSw; have f2 := F2 w hSw; have f3 := F3 w hSw; have f4 := F4 w hSw; have f5 := hsub; have f6 := E3.out; have f7 := hn0; have f8 := h3a; have f9 := hwn; have f10 := hAB); go_simp; first | done | with_reducible rfl)); simp only [Act.put, List.setIfInBounds_toArray, List.set_cons_zero, List.set_cons_succ])
    (refine mv_val 30 (v := ?_) rfl (by kernel_rfl) (by kernel_rfl) (by kernel_rfl) (fun _ _ _ h => h) (by rfl) hS ?_ ?_; rotate_left; (focus (intro w hSw; (try dsimp only at hSw); (have f1 := F1 w hSw; have f2 := F2 w hSw; have f3 := F3 w hSw; have f4 := F4 w hSw; have f5 := hsub; have f6 := E3.out; have f7 := hn0; have f8 := h3a; have f9 := hwn; have f10 := hAB); go_simp; first | done | with_reducible rfl)); simp only [Act.put, List.setIfInBounds_toArray, List.set_cons_zero, List.set_cons_succ])
    (refine mv_val 32 (v := ?_) rfl (by kernel_rfl) (by kernel_rfl) (by kernel_rfl) (fun _ _ _ h => h) (by rfl) hS ?_ ?_; rotate_left; (focus (intro w hSw; (try dsimp only at hSw); (have f1 := F1 w hSw; have f2 := F2 w hSw; have f3 := F3 w hSw; have f4 := F4 w hSw; have f5 := hsub; have f6 := E3.out; have f7 := hn0; have f8 := h3a; have f9 := hwn; have f10 := hAB); go_simp; first | done | with_reducible rfl)); simp only [Act.put, List.setIfInBounds_toArray, List.set_cons_zero, List.set_cons_succ])
    (refine mv_val 33 (v := ?_) rfl (by kernel_rfl) (by kernel_rfl) (by kernel_rfl) (fun _ _ _ h => h) (by rfl) hS ?_ ?_; rotate_left; (focus (intro w hSw; (try dsimp only at hSw); (have f1 := F1 w hSw; have f2 := F2 w hSw; have f3 := F3 w hSw; have f4 := F4 w hSw; have f5 := hsub; have f6 := E3.out; have f7 := hn0; have f8 := h3a; have f9 := hwn; have f10 := hAB); go_simp; first | done | with_reducible rfl)); simp only [Act.put, List.setIfInBounds_toArray, List.set_cons_zero, List.set_cons_succ])
    (refine mv_val 34 (v := ?_) rfl (by kernel_rfl) (by kernel_rfl) (by kernel_rfl) (fun _ _ _ h => h) (by rfl) hS ?_ ?_; rotate_left; (focus (intro w hSw; (try dsimp only at hSw); (have f1 := F1 w hSw; have f2 := F2 w hSw; have f3 := F3 w hSw; have f4 := F4 w hSw; have f5 := hsub; have f6 := E3.out; have f7 := hn0; have f8 := h3a; have f9 := hwn; have f10 := hAB); go_simp; first | done | with_reducible rfl)); simp only [Act.put, List.setIfInBounds_toArray, List.set_cons_zero, List.set_cons_succ])
    (refine mv_call 31 (f := ?_) (args := ?_) rfl (by kernel_rfl) (by rfl) ?_ ?_; rotate_left 2; (focus (go_simp; first | done | with_reducible rfl | (refine ⟨?_, ?_⟩ <;> with_reducible rfl))))
    refine (Hu.out _).mono ?_; rintro e w5 ⟨rfl, hb5⟩
    have hS5 : Below w3.heap.size w3 w5 := hS.trans (hb5.mono hS.size)
    refine ⟨_, rfl, hS5, ?_⟩
    replace hS := hS5
    simp only [Act.put, List.setIfInBounds_toArray, List.set_cons_zero, List.set_cons_succ]
    (refine mv_val 35 (v := ?_) rfl (by kernel_rfl) (by kernel_rfl) (by kernel_rfl) (fun _ _ _ h => h) (by rfl) hS ?_ ?_; rotate_left; (focus (intro w hSw; (try dsimp only at hSw); (have f1 := F1 w hSw; have f2 := F2 w hSw; have f3 := F3 w hSw; have f4 := F4 w hSw; have f5 := hsub; have f6 := E3.out; have f7 := hn0; have f8 := h3a; have f9 := hwn; have f10 := hAB); go_simp; first | done | with_reducible rfl)); simp only [Act.put, List.setIfInBounds_toArray, List.set_cons_zero, List.set_cons_succ])
    (refine mv_val 36 (v := ?_) rfl (by kernel_rfl) (by kernel_rfl) (by kernel_rfl) (fun _ _ _ h => h) (by rfl) hS ?_ ?_; rotate_left; (focus (intro w hSw; (try dsimp only at hSw); (have f1 := F1 w hSw; have f2 := F2 w hSw; have f3 := F3 w hSw; have f4 := F4 w hSw; have f5 := hsub; have f6 := E3.out; have f7 := hn0; have f8 := h3a; have f9 := hwn; have f10 := hAB); go_simp; first | done | with_reducible rfl)); simp only [Act.put, List.setIfInBounds_toArray, List.set_cons_zero, List.set_cons_succ])
    (refine mv_val 37 (v := ?_) rfl (by kernel_rfl) (by kernel_rfl) (by kernel_rfl) (fun _ _ _ h => h) (by rfl) hS ?_ ?_; rotate_left; (focus (intro w hSw; (try dsimp only at hSw); (have f1 := F1 w hSw; have f2 := F2 w hSw; have f3 := F3 w hSw; have f4 := F4 w hSw; have f5 := hsub; have f6 := E3.out; have f7 := hn0; have f8 := h3a; have f9 := hwn; have f10 := hAB); go_simp; first | done | with_reducible rfl)); simp only [Act.put, List.setIfInBounds_toArray, List.set_cons_zero, List.set_cons_succ])
    (refine mv_val 38 (v := ?_) rfl (by kernel_rfl) (by kernel_rfl) (by kernel_rfl) (fun _ _ _ h => h) (by rfl) hS ?_ ?_; rotate_left; (focus (intro w hSw; (try dsimp only at hSw); (have f1 := F1 w hSw; have f2 := F2 w hSw; have f3 := F3 w hSw; have f4 := F4 w hSw; have f5 := hsub; have f6 := E3.out; have f7 := hn0; have f8 := h3a; have f9 := hwn; have f10 := hAB); go_simp; first | done | with_reducible rfl)); simp only [Act.put, List.setIfInBounds_toArray, List.set_cons_zero, List.set_cons_succ])
    (refine mv_val 39 (v := ?_) rfl (by kernel_rfl) (by kernel_rfl) (by kernel_rfl) (fun _ _ _ h => h) (by rfl) hS ?_ ?_; rotate_left; (focus (intro w hSw; (try dsimp only at hSw); (have f1 := F1 w hSw; have f2 := F2 w hSw; have f3 := F3 w hSw; have f4 := F4 w hSw; have f5 := hsub; have f6 := E3.out; have f7 := hn0; have f8 := h3a; have f9 := hwn; have f10 := hAB); go_simp; first | done | with_reducible rfl)); simp only [Act.put, List.setIfInBounds_toArray, List.set_cons_zero, List.set_cons_succ])
    (refine mv_val 40 (v := ?_) rfl (by kernel_rfl) (by kernel_rfl) (by kernel_rfl) (fun _ _ _ h => h) (by rfl) hS ?_ ?_; rotate_left; (focus (intro w hSw; (try dsimp only at hSw); (have f1 := F1 w hSw; have f2 := F2 w hSw; have f3 := F3 w hSw; have f4 := F4 w hSw; have f5 := hsub; have f6 := E3.out; have f7 := hn0; have f8 := h3a; have f9 := hwn; have f10 := hAB); go_simp; first | done | with_reducible rfl)); simp only [Act.put, List.setIfInBounds_toArray, List.set_cons_zero, List.set_cons_succ])
    (refine mv_val 41 (v := ?_) rfl (by kernel_rfl) (by kernel_rfl) (by kernel_rfl) (fun _ _ _ h => h) (by rfl) hS ?_ ?_; rotate_left; (focus (intro w hSw; (try dsimp only at hSw); (have f1 := F1 w hSw; have f2 := F2 w hSw; have f3 := F3 w hSw; have f4 := F4 w hSw; have f5 := hsub; have f6 := E3.out; have f7 := hn0; have f8 := h3a; have f9 := hwn; have f10 := hAB); go_simp; first | done | with_reducible rfl)); simp only [Act.put, List.setIfInBounds_toArray, List.set_cons_zero, List.set_cons_succ])
    (refine mv_val 42 (v := ?_) rfl (by kernel_rfl) (by kernel_rfl) (by kernel_rfl) (fun _ _ _ h => h) (by rfl) hS ?_ ?_; rotate_left; (focus (intro w hSw; (try dsimp only at hSw); (have f1 := F1 w hSw; have f2 := F2 w hSw; have f3 := F3 w hSw; have f4 := F4 w hSw; have f5 := hsub; have f6 := E3.out; have f7 := hn0; have f8 := h3a; have f9 := hwn; have f10 := hAB); go_simp; first | done | with_reducible rfl)); simp only [Act.put, List.setIfInBounds_toArray, List.set_cons_zero, List.set_cons_succ])
    (refine mv_val 43 (v := ?_) rfl (by kernel_rfl) (by kernel_rfl) (by kernel_rfl) (fun _ _ _ h => h) (by rfl) hS ?_ ?_; rotate_left; (focus (intro w hSw; (try dsimp only at hSw); (have f1 := F1 w hSw; have f2 := F2 w hSw; have f3 := F3 w hSw; have f4 := F4 w hSw; have f5 := hsub; have f6 := E3.out; have f7 := hn0; have f8 := h3a; have f9 := hwn; have f10 := hAB); go_simp; first | done | with_reducible rfl)); simp only [Act.put, List.setIfInBounds_toArray, List.set_cons_zero, List.set_cons_succ])
    (refine mv_call 44 (f := ?_) (args := ?_) rfl (by kernel_rfl) (by rfl) ?_ ?_; rotate_left 2; (focus (go_simp; first | done | with_reducible rfl | (refine ⟨?_, ?_⟩ <;> with_reducible rfl))))
    refine (Ha.out _).mono ?_; rintro e w6 ⟨rfl, hb6⟩
    have hS6 : Below w3.heap.size w3 w6 := hS.trans (hb6.mono hS.size)
    refine ⟨_, rfl, hS6, ?_⟩
    replace hS := hS6
    simp only [Act.put, List.setIfInBounds_toArray, List.set_cons_zero, List.set_cons_succ]
    (refine mv_call 45 (f := ?_) (args := ?_) rfl (by kernel_rfl) (by rfl) ?_ ?_; rotate_left 2; (focus (go_simp; first | done | with_reducible rfl | (refine ⟨?_, ?_⟩ <;> with_reducible rfl))))
    refine (He.out _).mono ?_; rintro e w7 ⟨rfl, hb7⟩
    have hS7 : Below w3.heap.size w3 w7 := hS.trans (hb7.mono hS.size)
    refine ⟨_, rfl, hS7, ?_⟩
    replace hS := hS7
    simp only [Act.put, List.setIfInBounds_toArray, List.set_cons_zero, List.set_cons_succ]
    (refine mv_val 46 (v := ?_) rfl (by kernel_rfl) (by kernel_rfl) (by kernel_rfl) (fun _ _ _ h => h) (by rfl) hS ?_ ?_; rotate_left; (focus (intro w hSw; (try dsimp only at hSw); (have f1 := F1 w hSw; have f2 := F2 w hSw; have f3 := F3 w hSw; have f4 := F4 w hSw; have f5 := hsub; have f6 := E3.out; have f7 := hn0; have f8 := h3a; have f9 := hwn; have f10 := hAB); go_simp; first | done | with_reducible rfl)); simp only [Act.put, List.setIfInBounds_toArray, List.set_cons_zero, List.set_cons_succ])
    (refine mv_val 47 (v := ?_) rfl (by kernel_rfl) (by kernel_rfl) (by kernel_rfl) (fun _ _ _ h => h) (by rfl) hS ?_ ?_; rotate_left; (focus (intro w hSw; (try dsimp only at hSw); (have f1 := F1 w hSw; have f2 := F2 w hSw; have f3 := F3 w hSw; have f4 := F4 w hSw; have f5 := hsub; have f6 := E3.out; have f7 := hn0; have f8 := h3a; have f9 := hwn; have f10 := hAB); go_simp; first | done | with_reducible rfl)); simp only [Act.put, List.setIfInBounds_toArray, List.set_cons_zero, List.set_cons_succ])
    (refine mv_val 48 (v := ?_) rfl (by kernel_rfl) (by kernel_rfl) (by kernel_rfl) (fun _ _ _ h => h) (by rfl) hS ?_ ?_; rotate_left; (focus (intro w hSw; (try dsimp only at hSw); (have f1 := F1 w hSw; have f2 := F2 w hSw; have f3 := F3 w hSw; have f4 := F4 w hSw; have f5 := hsub; have f6 := E3.out; have f7 := hn0; have f8 := h3a; have f9 := hwn; have f10 := hAB); go_simp; first | done | with_reducible rfl)); simp only [Act.put, List.setIfInBounds_toArray, List.set_cons_zero, List.set_cons_succ])
    refine wpAnyH_done (by kernel_rfl) ?_ _
    have zN := hS.size
    by_cases hk1 : k < 1
    · go_wp2_with fail
      refine (wakes9_any _).mono ?_; rintro e w9 ⟨rfl, hb9⟩
      go_wp2_with fail
      go_ret
      exact ⟨rfl, b3'.trans ((hS.trans (hb9.mono zN)).mono (by omega))⟩
    have hk1' : 1 ≤ k := by omega
    by_cases hk2 : (1099511627776 : Int) / n < k
    · go_wp2_with fail
      refine (wakes9_any _).mono ?_; rintro e w9 ⟨rfl, hb9⟩
      go_wp2_with fail
      go_ret
      exact ⟨rfl, b3'.trans ((hS.trans (hb9.mono zN)).mono (by omega))⟩
    have hkm : k * n ≤ 1099511627776 := by
      exact Int.mul_le_of_le_ediv (by omega) (by omega)
    have hkm1 : 1 ≤ n * k := by have := Int.mul_le_mul h3a hk1' (by omega) (by omega); omega
    have hmk : k * n = n * k := Int.mul_comm k n
    obtain ⟨e1, e2, e3, e4, e5, e6⟩ := E4.out hkm1
    have hf3 := fl_bd t (n * k) hkm1
    obtain ⟨m, hm⟩ : ∃ m, m = n * k := ⟨_, rfl⟩
    have hwm : wrap64 (n * k) = m := by rw [hm]; exact IntWalk.wrap64_in _ ⟨by omega, by omega⟩
    rw [← hm] at e1 e2 e3 e4 e5 e6 hkm1 hmk hf3
    obtain ⟨C, hC⟩ : ∃ C, C = fl t m := ⟨_, rfl⟩
    have c1 : bnd t := by unfold bnd; omega
    rw [← hC] at e1 e2 e3 e4 e5 e6 hf3
    have c2 : bnd C := by unfold bnd; omega
    have c3 : bnd (C + m) := by unfold bnd; omega
    have G3 := fun w => bkt_ok (n := m) (t := t) (by omega) (by omega) c1 w
    rw [← hC] at G3
    have z0 : wrg n [C, C + m] = 0 ∧ C < C + m := ⟨wrg_ok2 h3a h3b c2 c3, by omega⟩
    have G4 := Lib.hid (out_ok (x := C) (y := C + m) h3a h3b c2 c3 (by unfold OutF gF; rw [if_pos z0, e1, e2, if_neg (by omega)]) (by unfold OutT gT; rw [if_pos z0, e1, e2, if_neg (by omega)]))
    have G5 := Lib.hid (in_ok (x := C) (y := C + m) h3a h3b c2 c3 (by unfold InF gF; rw [if_pos z0, e3, e4, if_neg (by omega)]) (by unfold InT gT; rw [if_pos z0, e3, e4, if_neg (by omega)]))
    have G6 := Lib.hid (and_ok (a := A) (b := A + n) (c := C) (d := C + m) (x := A) (y := A + n) (by unfold andF; rw [if_neg (by omega)]; omega) (by unfold andT; rw [if_neg (by omega)]; omega))
    have K3 := Lib.hid G3
    clear G3 e1 e2 e3 e4 hC hm E4 z0
    go_wp2_with fail
    refine (K3.out _).mono ?_; rintro e w10 ⟨rfl, hb10⟩
    have hT : Below w3.heap.size w3 w10 := hS.trans (hb10.mono zN)
    have z10 := hT.size
    have y10 : w1.heap.size < w10.heap.size := by omega
    go_wp2_with fail
    refine (G4.out _).mono ?_; rintro e w11 ⟨rfl, hb11⟩
    have z11 := hb11.size; simp at z11
    have hT11 : Below w3.heap.size w3 w11 := (hT.alloc z10 _).trans (hb11.mono (by simp; omega))
    have p1 : w11.cell? ⟨w10.heap.size, 0, none⟩ = some (.int .i64 C) := cell_be (by simp [go_sem]) hb11 (by simp)
    have p2 : w11.cell? ⟨w10.heap.size, 1, none⟩ = some (.int .i64 (C + m)) := cell_be (by simp [go_sem]) hb11 (by simp)
    have y11 : w10.heap.size < w11.heap.size := by omega
    go_wp2_with fail
    refine (G5.out _).mono ?_; rintro e w12 ⟨rfl, hb12⟩
    have z12 := hb12.size; simp at z12
    have hT12 : Below w3.heap.size w3 w12 := (hT11.alloc hT11.size _).trans (hb12.mono (by simp; omega))
    have q1 : w12.cell? ⟨w10.heap.size, 0, none⟩ = some (.int .i64 C) := cell_be (cell_al p1 (by show w10.heap.size < _; omega) _) hb12 (by simp; omega)
    have q2 : w12.cell? ⟨w10.heap.size, 1, none⟩ = some (.int .i64 (C + m)) := cell_be (cell_al p2 (by show w10.heap.size < _; omega) _) hb12 (by simp; omega)
    have q3 : w12.cell? ⟨w11.heap.size, 0, none⟩ = some (.int .i64 C) := cell_be (by simp [go_sem]) hb12 (by simp)
    have q4 : w12.cell? ⟨w11.heap.size, 1, none⟩ = some (.int .i64 (C + m)) := cell_be (by simp [go_sem]) hb12 (by simp)
    obtain ⟨w13, hw13⟩ : ∃ w13, w13 = w12.alloc (.cells #[.int .i64 C, .int .i64 (C + m)] 23) := ⟨_, rfl⟩
    have z13 : w13.heap.size = w12.heap.size + 1 := by rw [hw13]; simp
    have hT13 : Below w3.heap.size w3 w13 := by rw [hw13]; exact hT12.alloc hT12.size _
    have x1 : w13.cell? ⟨w10.heap.size, 0, none⟩ = some (.int .i64 C) := by rw [hw13]; exact cell_al q1 (by show w10.heap.size < _; omega) _
    have x2 : w13.cell? ⟨w10.heap.size, 1, none⟩ = some (.int .i64 (C + m)) := by rw [hw13]; exact cell_al q2 (by show w10.heap.size < _; omega) _
    have x3 : w13.cell? ⟨w11.heap.size, 0, none⟩ = some (.int .i64 C) := by rw [hw13]; exact cell_al q3 (by show w11.heap.size < _; omega) _
    have x4 : w13.cell? ⟨w11.heap.size, 1, none⟩ = some (.int .i64 (C + m)) := by rw [hw13]; exact cell_al q4 (by show w11.heap.size < _; omega) _
    have x5 : w13.cell? ⟨w12.heap.size, 0, none⟩ = some (.int .i64 C) := by rw [hw13]; simp [go_sem]
    have x6 : w13.cell? ⟨w12.heap.size, 1, none⟩ = some (.int .i64 (C + m)) := by rw [hw13]; simp [go_sem]
    have J : ∀ w', Below w13.heap.size w13 w' → (w'.cell? ⟨w1.heap.size, 0, none⟩ = some (.int .i64 A) ∧ w'.cell? ⟨w1.heap.size, 1, none⟩ = some (.int .i64 (A + n)) ∧ w'.cell? ⟨w10.heap.size, 0, none⟩ = some (.int .i64 C) ∧ w'.cell? ⟨w10.heap.size, 1, none⟩ = some (.int .i64 (C + m)) ∧ w'.cell? ⟨w11.heap.size, 0, none⟩ = some (.int .i64 C) ∧ w'.cell? ⟨w11.heap.size, 1, none⟩ = some (.int .i64 (C + m)) ∧ w'.cell? ⟨w12.heap.size, 0, none⟩ = some (.int .i64 C) ∧ w'.cell? ⟨w12.heap.size, 1, none⟩ = some (.int .i64 (C + m))) := fun w' h =>
      ⟨F1 w' (hT13.trans (h.mono hT13.size)), F2 w' (hT13.trans (h.mono hT13.size)), cell_be x1 h (by show w10.heap.size < _; omega), cell_be x2 h (by show w10.heap.size < _; omega), cell_be x3 h (by show w11.heap.size < _; omega), cell_be x4 h (by show w11.heap.size < _; omega), cell_be x5 h (by show w12.heap.size < _; omega), cell_be x6 h (by show w12.heap.size < _; omega)⟩
    clear hS zN hT z10 p1 p2 q1 q2 q3 q4 x1 x2 x3 x4 x5 x6
    go_wp2_with fail
    rw [← hw13]
    refine ah_start 31 (fun w' => Below w13.heap.size w13 w') rfl (by kernel_rfl) (Below.refl _ _).drew ?_
    intro hS
    (refine mv_val 0 (v := ?_) rfl (by kernel_rfl) (by kernel_rfl) (by kernel_rfl) (fun _ _ _ h => h) (by rfl) hS ?_ ?_; rotate_left; (focus (intro w hSw; (try dsimp only at hSw); (have f1 := J w hSw); go_simp; first | done | with_reducible rfl)); simp only [Act.put, List.setIfInBounds_toArray, List.set_cons_zero, List.set_cons_succ])
    (refine mv_val 1 (v := ?_) rfl (by kernel_rfl) (by kernel_rfl) (by kernel_rfl) (fun _ _ _ h => h) (by rfl) hS ?_ ?_; rotate_left; (focus (intro w hSw; (try dsimp only at hSw); (have f1 := J w hSw); go_simp; first | done | with_reducible rfl)); simp only [Act.put, List.setIfInBounds_toArray, List.set_cons_zero, List.set_cons_succ])
    (refine mv_val 2 (v := ?_) rfl (by kernel_rfl) (by kernel_rfl) (by kernel_rfl) (fun _ _ _ h => h) (by rfl) hS ?_ ?_; rotate_left; (focus (intro w hSw; (try dsimp only at hSw); (have f1 := J w hSw); go_simp; first | done | with_reducible rfl)); simp only [Act.put, List.setIfInBounds_toArray, List.set_cons_zero, List.set_cons_succ])
    (refine mv_val 3 (v := ?_) rfl (by kernel_rfl) (by kernel_rfl) (by kernel_rfl) (fun _ _ _ h => h) (by rfl) hS ?_ ?_; rotate_left; (focus (intro w hSw; (try dsimp only at hSw); (have f1 := J w hSw); go_simp; first | done | with_reducible rfl)); simp only [Act.put, List.setIfInBounds_toArray, List.set_cons_zero, List.set_cons_succ])
    (refine mv_val 4 (v := ?_) rfl (by kernel_rfl) (by kernel_rfl) (by kernel_rfl) (fun _ _ _ h => h) (by rfl) hS ?_ ?_; rotate_left; (focus (intro w hSw; (try dsimp only at hSw); (have f1 := J w hSw); go_simp; first | done | with_reducible rfl)); simp only [Act.put, List.setIfInBounds_toArray, List.set_cons_zero, List.set_cons_succ])
    (refine mv_val 5 (v := ?_) rfl (by kernel_rfl) (by kernel_rfl) (by kernel_rfl) (fun _ _ _ h => h) (by rfl) hS ?_ ?_; rotate_left; (focus (intro w hSw; (try dsimp only at hSw); (have f1 := J w hSw); go_simp; first | done | with_reducible rfl)); simp only [Act.put, List.setIfInBounds_toArray, List.set_cons_zero, List.set_cons_succ])
    (refine mv_val 6 (v := ?_) rfl (by kernel_rfl) (by kernel_rfl) (by kernel_rfl) (fun _ _ _ h => h) (by rfl) hS ?_ ?_; rotate_left; (focus (intro w hSw; (try dsimp only at hSw); (have f1 := J w hSw); go_simp; first | done | with_reducible rfl)); simp only [Act.put, List.setIfInBounds_toArray, List.set_cons_zero, List.set_cons_succ])
    (refine mv_val 7 (v := ?_) rfl (by kernel_rfl) (by kernel_rfl) (by kernel_rfl) (fun _ _ _ h => h) (by rfl) hS ?_ ?_; rotate_left; (focus (intro w hSw; (try dsimp only at hSw); (have f1 := J w hSw); go_simp; first | done | with_reducible rfl)); simp only [Act.put, List.setIfInBounds_toArray, List.set_cons_zero, List.set_cons_succ])
    (refine mv_val 8 (v := ?_) rfl (by kernel_rfl) (by kernel_rfl) (by kernel_rfl) (fun _ _ _ h => h) (by rfl) hS ?_ ?_; rotate_left; (focus (intro w hSw; (try dsimp only at hSw); (have f1 := J w hSw); go_simp; first | done | with_reducible rfl)); simp only [Act.put, List.setIfInBounds_toArray, List.set_cons_zero, List.set_cons_succ])
    (refine mv_val 9 (v := ?_) rfl (by kernel_rfl) (by kernel_rfl) (by kernel_rfl) (fun _ _ _ h => h) (by rfl) hS ?_ ?_; rotate_left; (focus (intro w hSw; (try dsimp only at hSw); (have f1 := J w hSw); go_simp; first | done | with_reducible rfl)); simp only [Act.put, List.setIfInBounds_toArray, List.set_cons_zero, List.set_cons_succ])
    (refine mv_val 10 (v := ?_) rfl (by kernel_rfl) (by kernel_rfl) (by kernel_rfl) (fun _ _ _ h => h) (by rfl) hS ?_ ?_; rotate_left; (focus (intro w hSw; (try dsimp only at hSw); (have f1 := J w hSw); go_simp; first | done | with_reducible rfl)); simp only [Act.put, List.setIfInBounds_toArray, List.set_cons_zero, List.set_cons_succ])
    (refine mv_val 11 (v := ?_) rfl (by kernel_rfl) (by kernel_rfl) (by kernel_rfl) (fun _ _ _ h => h) (by rfl) hS ?_ ?_; rotate_left; (focus (intro w hSw; (try dsimp only at hSw); (have f1 := J w hSw); go_simp; first | done | with_reducible rfl)); simp only [Act.put, List.setIfInBounds_toArray, List.set_cons_zero, List.set_cons_succ])
    (refine mv_val 12 (v := ?_) rfl (by kernel_rfl) (by kernel_rfl) (by kernel_rfl) (fun _ _ _ h => h) (by rfl) hS ?_ ?_; rotate_left; (focus (intro w hSw; (try dsimp only at hSw); (have f1 := J w hSw); go_simp; first | done | with_reducible rfl)); simp only [Act.put, List.setIfInBounds_toArray, List.set_cons_zero, List.set_cons_succ])
    (refine mv_val 13 (v := ?_) rfl (by kernel_rfl) (by kernel_rfl) (by kernel_rfl) (fun _ _ _ h => h) (by rfl) hS ?_ ?_; rotate_left; (focus (intro w hSw; (try dsimp only at hSw); (have f1 := J w hSw); go_simp; first | done | with_reducible rfl)); simp only [Act.put, List.setIfInBounds_toArray, List.set_cons_zero, List.set_cons_succ])
    (refine mv_val 14 (v := ?_) rfl (by kernel_rfl) (by kernel_rfl) (by kernel_rfl) (fun _ _ _ h => h) (by rfl) hS ?_ ?_; rotate_left; (focus (intro w hSw; (try dsimp only at hSw); (have f1 := J w hSw); go_simp; first | done | with_reducible rfl)); simp only [Act.put, List.setIfInBounds_toArray, List.set_cons_zero, List.set_cons_succ])
    (refine mv_val 15 (v := ?_) rfl (by kernel_rfl) (by kernel_rfl) (by kernel_rfl) (fun _ _ _ h => h) (by rfl) hS ?_ ?_; rotate_left; (focus (intro w hSw; (try dsimp only at hSw); (have f1 := J w hSw); go_simp; first | done | with_reducible rfl)); simp only [Act.put, List.setIfInBounds_toArray, List.set_cons_zero, List.set_cons_succ])
    (refine mv_val 16 (v := ?_) rfl (by kernel_rfl) (by kernel_rfl) (by kernel_rfl) (fun _ _ _ h => h) (by rfl) hS ?_ ?_; rotate_left; (focus (intro w hSw; (try dsimp only at hSw); (have f1 := J w hSw); go_simp; first | done | with_reducible rfl)); simp only [Act.put, List.setIfInBounds_toArray, List.set_cons_zero, List.set_cons_succ])
    (refine mv_val 17 (v := ?_) rfl (by kernel_rfl) (by kernel_rfl) (by kernel_rfl) (fun _ _ _ h => h) (by rfl) hS ?_ ?_; rotate_left; (focus (intro w hSw; (try dsimp only at hSw); (have f1 := J w hSw); go_simp; first | done | with_reducible rfl)); simp only [Act.put, List.setIfInBounds_toArray, List.set_cons_zero, List.set_cons_succ])
    (refine mv_val 18 (v := ?_) rfl (by kernel_rfl) (by kernel_rfl) (by kernel_rfl) (fun _ _ _ h => h) (by rfl) hS ?_ ?_; rotate_left; (focus (intro w hSw; (try dsimp only at hSw); (have f1 := J w hSw); go_simp; first | done | with_reducible rfl)); simp only [Act.put, List.setIfInBounds_toArray, List.set_cons_zero, List.set_cons_succ])
    (refine mv_val 19 (v := ?_) rfl (by kernel_rfl) (by kernel_rfl) (by kernel_rfl) (fun _ _ _ h => h) (by rfl) hS ?_ ?_; rotate_left; (focus (intro w hSw; (try dsimp only at hSw); (have f1 := J w hSw); go_simp; first | done | with_reducible rfl)); simp only [Act.put, List.setIfInBounds_toArray, List.set_cons_zero, List.set_cons_succ])
    (refine mv_val 20 (v := ?_) rfl (by kernel_rfl) (by kernel_rfl) (by kernel_rfl) (fun _ _ _ h => h) (by rfl) hS ?_ ?_; rotate_left; (focus (intro w hSw; (try dsimp only at hSw); (have f1 := J w hSw); go_simp; first | done | with_reducible rfl)); simp only [Act.put, List.setIfInBounds_toArray, List.set_cons_zero, List.set_cons_succ])
    (refine mv_val 21 (v := ?_) rfl (by kernel_rfl) (by kernel_rfl) (by kernel_rfl) (fun _ _ _ h => h) (by rfl) hS ?_ ?_; rotate_left; (focus (intro w hSw; (try dsimp only at hSw); (have f1 := J w hSw); go_simp; first | done | with_reducible rfl)); simp only [Act.put, List.setIfInBounds_toArray, List.set_cons_zero, List.set_cons_succ])
    (refine mv_val 22 (v := ?_) rfl (by kernel_rfl) (by kernel_rfl) (by kernel_rfl) (fun _ _ _ h => h) (by rfl) hS ?_ ?_; rotate_left; (focus (intro w hSw; (try dsimp only at hSw); (have f1 := J w hSw); go_simp; first | done | with_reducible rfl)); simp only [Act.put, List.setIfInBounds_toArray, List.set_cons_zero, List.set_cons_succ])
    (refine mv_val 24 (v := ?_) rfl (by kernel_rfl) (by kernel_rfl) (by kernel_rfl) (fun _ _ _ h => h) (by rfl) hS ?_ ?_; rotate_left; (focus (intro w hSw; (try dsimp only at hSw); (have f1 := J w hSw); go_simp; first | done | with_reducible rfl)); simp only [Act.put, List.setIfInBounds_toArray, List.set_cons_zero, List.set_cons_succ])
    (refine mv_call 23 (f := ?_) (args := ?_) rfl (by kernel_rfl) (by rfl) ?_ ?_; rotate_left 2; (focus (go_simp; first | done | with_reducible rfl | (refine ⟨?_, ?_⟩ <;> with_reducible rfl))))
    refine (G6.out _).mono ?_; rintro e w14 ⟨rfl, hb14⟩
    have hS14 : Below w13.heap.size w13 w14 := hS.trans (hb14.mono hS.size)
    refine ⟨_, rfl, hS14, ?_⟩
    replace hS := hS14
    simp only [Act.put, List.setIfInBounds_toArray, List.set_cons_zero, List.set_cons_succ]
    (refine mv_val 25 (v := ?_) rfl (by kernel_rfl) (by kernel_rfl) (by kernel_rfl) (fun _ _ _ h => h) (by rfl) hS ?_ ?_; rotate_left; (focus (intro w hSw; (try dsimp only at hSw); (have f1 := J w hSw); go_simp; first | done | with_reducible rfl)); simp only [Act.put, List.setIfInBounds_toArray, List.set_cons_zero, List.set_cons_succ])
    (refine mv_val 26 (v := ?_) rfl (by kernel_rfl) (by kernel_rfl) (by kernel_rfl) (fun _ _ _ h => h) (by rfl) hS ?_ ?_; rotate_left; (focus (intro w hSw; (try dsimp only at hSw); (have f1 := J w hSw); go_simp; first | done | with_reducible rfl)); simp only [Act.put, List.setIfInBounds_toArray, List.set_cons_zero, List.set_cons_succ])
    (refine mv_val 27 (v := ?_) rfl (by kernel_rfl) (by kernel_rfl) (by kernel_rfl) (fun _ _ _ h => h) (by rfl) hS ?_ ?_; rotate_left; (focus (intro w hSw; (try dsimp only at hSw); (have f1 := J w hSw); go_simp; first | done | with_reducible rfl)); simp only [Act.put, List.setIfInBounds_toArray, List.set_cons_zero, List.set_cons_succ])
    (refine mv_call 28 (f := ?_) (args := ?_) rfl (by kernel_rfl) (by rfl) ?_ ?_; rotate_left 2; (focus (go_simp; first | done | with_reducible rfl | (refine ⟨?_, ?_⟩ <;> with_reducible rfl))))
    refine (wakes9_any _).mono ?_; rintro e w15 ⟨rfl, hb15⟩
    have hS15 : Below w13.heap.size w13 w15 := hS.trans (hb15.mono hS.size)
    refine ⟨_, rfl, hS15, ?_⟩
    replace hS := hS15
    simp only [Act.put, List.setIfInBounds_toArray, List.set_cons_zero, List.set_cons_succ]
    (refine mv_val 29 (v := ?_) rfl (by kernel_rfl) (by kernel_rfl) (by kernel_rfl) (fun _ _ _ h => h) (by rfl) hS ?_ ?_; rotate_left; (focus (intro w hSw; (try dsimp only at hSw); (have f1 := J w hSw); go_simp; first | done | with_reducible rfl)); simp only [Act.put, List.setIfInBounds_toArray, List.set_cons_zero, List.set_cons_succ])
    (refine mv_val 30 (v := ?_) rfl (by kernel_rfl) (by kernel_rfl) (by kernel_rfl) (fun _ _ _ h => h) (by rfl) hS ?_ ?_; rotate_left; (focus (intro w hSw; (try dsimp only at hSw); (have f1 := J w hSw); go_simp; first | done | with_reducible rfl)); simp only [Act.put, List.setIfInBounds_toArray, List.set_cons_zero, List.set_cons_succ])
    refine wpAnyH_done (by kernel_rfl) ?_ _
    go_wp2_with fail
    go_ret
    exact ⟨rfl, b3'.trans ((hT13.trans (hS.mono hT13.size)).mono (by omega))⟩
end Go.Proofs.Ytdijmfnjjcknaaa

/- The walk of the law SpanTiles: it answers true. No condition. -/
import Derived.Test.YtdijmfnjjcknaaaSpanW
import Derived.Test.YtdijmfnjjcknaaaSpanP
import Derived.Test.YtdijmfnjjcknaaaMove
namespace Go.Proofs.Ytdijmfnjjcknaaa
open Go.RowKit
set_option linter.unusedVariables false
set_option linter.unusedSimpArgs false

theorem fl_add (t n : Int) : fl (t + n) n = fl t n + n := by unfold fl; rw [Int.add_emod_right]; omega
theorem fl_fl (t n : Int) : fl (fl t n) n = fl t n := by
  unfold fl; rw [Int.sub_emod, Int.emod_emod, Int.sub_self, Int.zero_emod]; omega
theorem cl_eq (t n : Int) (h : 1 ≤ n) : cl t n = if t = fl t n then t else fl t n + n := by
  have b := mod_bd t n h
  have b2 := mod_bd (-t) n h
  have e : (t % n + (-t) % n) % n = 0 := by rw [← Int.add_emod, Int.add_right_neg, Int.zero_emod]
  have e2 : t % n + (-t) % n = 0 ∨ t % n + (-t) % n = n := by
    rcases Int.lt_or_le (t % n + (-t) % n) n with h1 | h1
    · left; rw [Int.emod_eq_of_lt (by omega) h1] at e; exact e
    · right
      have : (t % n + (-t) % n - n) % n = 0 := by rw [Int.sub_emod_right]; exact e
      rw [Int.emod_eq_of_lt (by omega) (by omega)] at this; omega
  unfold cl fl
  split <;> omega
theorem wrg_ok {n t : Int} (h1 : 1 ≤ n) (h2 : n ≤ 1099511627776) (h : bnd t) : wrg n [t] = 0 := by
  unfold wrg; rw [if_neg (by omega), if_pos (by simpa using h)]
theorem wrg_ok2 {n t u : Int} (h1 : 1 ≤ n) (h2 : n ≤ 1099511627776) (h : bnd t) (h' : bnd u) : wrg n [t, u] = 0 := by
  unfold wrg; rw [if_neg (by omega), if_pos (by simpa using ⟨h, h'⟩)]
theorem bkt_ok {n t : Int} (h1 : 1 ≤ n) (h2 : n ≤ 1099511627776) (h : bnd t) (w : World) :
    Calls Try.prog 19 #[.int .i64 t, .int .i64 n] w fun e w' => e = .returned (.tuple #[Sp (fl t n) (fl t n + n), .int .i64 0]) ∧ Below w.heap.size w w' := by
  have := Bucket_any t n w
  have z := wrg_ok h1 h2 h
  unfold bkF bkT at this; rw [z] at this; exact this
theorem flo_ok {n t : Int} (h1 : 1 ≤ n) (h2 : n ≤ 1099511627776) (h : bnd t) (w : World) :
    Calls Try.prog 22 #[.int .i64 t, .int .i64 n] w fun e w' => e = .returned (.tuple #[.int .i64 (fl t n), .int .i64 0]) ∧ Below w.heap.size w w' := by
  have := Floor_any t n w
  have z := wrg_ok h1 h2 h
  unfold flr at this; rw [z] at this; exact this
theorem cei_ok {n t : Int} (h1 : 1 ≤ n) (h2 : n ≤ 1099511627776) (h : bnd t) (w : World) :
    Calls Try.prog 23 #[.int .i64 t, .int .i64 n] w fun e w' => e = .returned (.tuple #[.int .i64 (cl t n), .int .i64 0]) ∧ Below w.heap.size w w' := by
  have := Ceil_any t n w
  have z := wrg_ok h1 h2 h
  unfold cei at this; rw [z] at this; exact this
theorem time_ok {n : Int} (h : -4611686018427387904 ≤ n ∧ n ≤ 4611686018427387903) (w : World) : Calls Try.prog 17 #[.int .i64 n] w fun e w' => e = .returned (.bool true) ∧ w = w' := by
  have := time_any n w; rw [decide_eq_true h] at this; exact this
theorem time_no {n : Int} (h : ¬ (-4611686018427387904 ≤ n ∧ n ≤ 4611686018427387903)) (w : World) : Calls Try.prog 17 #[.int .i64 n] w fun e w' => e = .returned (.bool false) ∧ w = w' := by
  have := time_any n w; rw [decide_eq_false h] at this; exact this
theorem width_ok {n : Int} (h : 1 ≤ n ∧ n ≤ 1099511627776) (w : World) : Calls Try.prog 18 #[.int .i64 n] w fun e w' => e = .returned (.bool true) ∧ w = w' := by
  have := width_any n w; rw [decide_eq_true h] at this; exact this
theorem width_no {n : Int} (h : ¬ (1 ≤ n ∧ n ≤ 1099511627776)) (w : World) : Calls Try.prog 18 #[.int .i64 n] w fun e w' => e = .returned (.bool false) ∧ w = w' := by
  have := width_any n w; rw [decide_eq_false h] at this; exact this

set_option maxHeartbeats 2000000 in
set_option maxRecDepth 100000 in
theorem spanTiles_walk (t n : Int) (W : World) (ht : -9223372036854775808 ≤ t ∧ t ≤ 9223372036854775807) (hn : -9223372036854775808 ≤ n ∧ n ≤ 9223372036854775807) :
    Calls Try.prog 6 #[.int .i64 t, .int .i64 n] W fun e w' => e = .returned (.bool true) ∧ Below W.heap.size W w' := by
  by_cases h1 : -4611686018427387904 ≤ t ∧ t ≤ 4611686018427387903
  case neg =>
    have T1 := Lib.hid (time_no h1)
    clear h1 ht hn
    go_enter Try.func6, Try.ntmps6
    go_wp2_with fail
    refine (T1.out _).mono ?_; rintro e w1 ⟨rfl, rfl⟩
    go_wp2_with fail
    refine (wakes9_any _).mono ?_; rintro e w2 ⟨rfl, hb⟩
    go_wp2_with fail
    go_ret
    exact ⟨rfl, hb⟩
  have T1 := Lib.hid (time_ok h1)
  by_cases h3 : 1 ≤ n ∧ n ≤ 1099511627776
  case neg =>
    have D1 := Lib.hid (width_no h3)
    by_cases h2 : -4611686018427387904 ≤ wrap64 (t + n) ∧ wrap64 (t + n) ≤ 4611686018427387903
    · have T2 := Lib.hid (time_ok h2)
      clear h1 h2 h3 ht hn
      go_enter Try.func6, Try.ntmps6
      go_wp2_with fail
      refine (T1.out _).mono ?_; rintro e w1 ⟨rfl, rfl⟩
      go_wp2_with fail
      refine (T2.out _).mono ?_; rintro e w1 ⟨rfl, rfl⟩
      go_wp2_with fail
      refine (D1.out _).mono ?_; rintro e w1 ⟨rfl, rfl⟩
      go_wp2_with fail
      refine (wakes9_any _).mono ?_; rintro e w2 ⟨rfl, hb⟩
      go_wp2_with fail
      go_ret
      exact ⟨rfl, hb⟩
    · have T2 := Lib.hid (time_no h2)
      clear h1 h2 h3 ht hn
      go_enter Try.func6, Try.ntmps6
      go_wp2_with fail
      refine (T1.out _).mono ?_; rintro e w1 ⟨rfl, rfl⟩
      go_wp2_with fail
      refine (T2.out _).mono ?_; rintro e w1 ⟨rfl, rfl⟩
      go_wp2_with fail
      refine (wakes9_any _).mono ?_; rintro e w2 ⟨rfl, hb⟩
      go_wp2_with fail
      go_ret
      exact ⟨rfl, hb⟩
  have D1 := Lib.hid (width_ok h3)
  by_cases h2 : -4611686018427387904 ≤ t + n ∧ t + n ≤ 4611686018427387903
  case neg =>
    have T2 := Lib.hid (time_no h2)
    obtain ⟨h1a, h1b⟩ := h1
    obtain ⟨h3a, h3b⟩ := h3
    clear h2
    go_enter Try.func6, Try.ntmps6
    go_wp2_with fail
    refine (T1.out _).mono ?_; rintro e w1 ⟨rfl, rfl⟩
    go_wp2_with fail
    refine (T2.out _).mono ?_; rintro e w1 ⟨rfl, rfl⟩
    go_wp2_with fail
    refine (wakes9_any _).mono ?_; rintro e w2 ⟨rfl, hb⟩
    go_wp2_with fail
    go_ret
    exact ⟨rfl, hb⟩
  have T2 := Lib.hid (time_ok h2)
  obtain ⟨h3a, h3b⟩ := h3
  have hf := fl_bd t n h3a
  have b1 : bnd t := by unfold bnd; omega
  have b2 : bnd (t + n) := by unfold bnd; omega
  have b3 : bnd (fl t n) := by unfold bnd; omega
  have B1 := fun w => bkt_ok h3a h3b b1 w
  have B2 := fun w => bkt_ok h3a h3b b2 w
  have F1 := fun w => flo_ok h3a h3b b3 w
  have C1 := fun w => cei_ok h3a h3b b1 w
  have C2 := fun w => cei_ok h3a h3b b3 w
  rw [fl_add] at B2
  rw [fl_fl] at F1
  rw [cl_eq _ _ h3a] at C1
  rw [cl_eq _ _ h3a, fl_fl, if_pos rfl] at C2
  obtain ⟨a, ha⟩ : ∃ a, a = fl t n := ⟨_, rfl⟩
  rw [← ha] at B1 B2 F1 C1 C2 hf
  have G1 := Lib.hid B1
  have G2 := Lib.hid B2
  have G3 := Lib.hid F1
  have G5 := Lib.hid C2
  obtain ⟨c, hcc⟩ : ∃ c, c = (if t = a then t else a + n) := ⟨_, rfl⟩
  rw [← hcc] at C1
  have hx : ((t == a) = true ∧ (c == t) = true) ∨ ((t == a) = false ∧ (c == a + n) = true) := by
    by_cases h : t = a
    · left; rw [if_pos h] at hcc; simp [h, hcc]
    · right; rw [if_neg h] at hcc; simp [h, hcc]
  have G4 := Lib.hid C1
  clear B1 B2 F1 C1 C2 b1 b2 b3 ha hcc
  obtain ⟨h1a, h1b⟩ := h1
  obtain ⟨h2a, h2b⟩ := h2
  obtain ⟨hfa, hfb⟩ := hf
  rcases hx with ⟨hx, hy⟩ | ⟨hx, hy⟩
  all_goals
    go_enter Try.func6, Try.ntmps6
    go_wp2_with fail
    refine (T1.out _).mono ?_; rintro e w1 ⟨rfl, rfl⟩
    go_wp2_with fail
    refine (T2.out _).mono ?_; rintro e w1 ⟨rfl, rfl⟩
    go_wp2_with fail
    refine (D1.out _).mono ?_; rintro e w1 ⟨rfl, rfl⟩
    go_wp2_with fail
    refine (G1.out _).mono ?_; rintro e w1 ⟨rfl, hb1⟩
    have z1 := hb1.size
    go_wp2_with fail
    refine (G2.out _).mono ?_; rintro e w2 ⟨rfl, hb2⟩
    obtain ⟨hc2, hf2⟩ := bcell hb2
    have z2 := hb2.size; simp at z2
    have y2 : w1.heap.size < w2.heap.size := by omega
    have b2' : Below W.heap.size W w2 := (hb1.alloc z1 _).trans (hb2.mono (by simp; omega))
    go_wp2_with fail
    refine (G3.out _).mono ?_; rintro e w3 ⟨rfl, hb3⟩
    have z3 := hb3.size; simp at z3
    have k1 : w3.cell? ⟨w1.heap.size, 0, none⟩ = some (.int .i64 a) := cell_be (by simp [go_sem, hc2, y2]) hb3 (by simp; omega)
    have k2 : w3.cell? ⟨w1.heap.size, 1, none⟩ = some (.int .i64 (a + n)) := cell_be (by simp [go_sem, hc2, y2]) hb3 (by simp; omega)
    have k3 : w3.cell? ⟨w2.heap.size, 0, none⟩ = some (.int .i64 (a + n)) := cell_be (by simp [go_sem]) hb3 (by simp)
    have b3' : Below W.heap.size W w3 := (b2'.alloc b2'.size _).trans (hb3.mono (by simp; omega))
    go_wp2_with fail
    refine (G4.out _).mono ?_; rintro e w4 ⟨rfl, hb4⟩
    have z4 := hb4.size
    have m1 := cell_be k1 hb4 (by show w1.heap.size < _; omega)
    have m2 := cell_be k2 hb4 (by show w1.heap.size < _; omega)
    have m3 := cell_be k3 hb4 (by show w2.heap.size < _; omega)
    have b4' : Below W.heap.size W w4 := b3'.trans (hb4.mono (by omega))
    go_wp2_with fail
    refine (G5.out _).mono ?_; rintro e w5 ⟨rfl, hb5⟩
    have z5 := hb5.size
    have n1 := cell_be m1 hb5 (by show w1.heap.size < _; omega)
    have n2 := cell_be m2 hb5 (by show w1.heap.size < _; omega)
    have n3 := cell_be m3 hb5 (by show w2.heap.size < _; omega)
    have b5' : Below W.heap.size W w5 := b4'.trans (hb5.mono (by omega))
    go_wp2_with fail
    refine (wakes9_any _).mono ?_; rintro e w6 ⟨rfl, hb6⟩
    go_wp2_with fail
    go_ret
    exact ⟨rfl, b5'.trans (hb6.mono (by omega))⟩
end Go.Proofs.Ytdijmfnjjcknaaa

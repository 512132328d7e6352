/- The walk of the law SpanWhole: it answers true. No condition. -/
import Derived.Test.YtdijmfnjjcknaaaSpanP3
import Derived.Test.YtdijmfnjjcknaaaSpanL3
namespace Go.Proofs.Ytdijmfnjjcknaaa
open Go.RowKit
set_option linter.unusedVariables false
set_option linter.unusedSimpArgs false

set_option maxHeartbeats 2000000 in
set_option maxRecDepth 100000 in
theorem spanWhole_walk (f u n t : Int) (W : World) :
    Calls Try.prog 5 #[Sp f u, .int .i64 n, .int .i64 t] W fun e w' => e = .returned (.bool true) ∧ Below W.heap.size W w' := by
  by_cases h1 : -4611686018427387904 ≤ f ∧ f ≤ 4611686018427387903
  case neg =>
    have T1 := Lib.hid (time_no h1)
    clear h1
    go_enter Try.func5, Try.ntmps5
    go_wp2_with fail
    refine (T1.out _).mono ?_; rintro e w1 ⟨rfl, rfl⟩
    go_wp2_with fail
    refine (wakes9_any _).mono ?_; rintro e w2 ⟨rfl, hb⟩
    have hb' := ((Below.refl W.heap.size W).alloc (Nat.le_refl _) _).trans (hb.mono (by simp))
    go_wp2_with fail
    go_ret
    exact ⟨rfl, hb'⟩
  have T1 := Lib.hid (time_ok h1)
  by_cases h2 : -4611686018427387904 ≤ u ∧ u ≤ 4611686018427387903
  case neg =>
    have T2 := Lib.hid (time_no h2)
    clear h1 h2
    go_enter Try.func5, Try.ntmps5
    go_wp2_with fail
    refine (T1.out _).mono ?_; rintro e w1 ⟨rfl, rfl⟩
    go_wp2_with fail
    refine (T2.out _).mono ?_; rintro e w1 ⟨rfl, rfl⟩
    go_wp2_with fail
    refine (wakes9_any _).mono ?_; rintro e w2 ⟨rfl, hb⟩
    have hb' := ((Below.refl W.heap.size W).alloc (Nat.le_refl _) _).trans (hb.mono (by simp))
    go_wp2_with fail
    go_ret
    exact ⟨rfl, hb'⟩
  have T2 := Lib.hid (time_ok h2)
  by_cases h3 : 1 ≤ n ∧ n ≤ 1099511627776
  case neg =>
    have D1 := Lib.hid (width_no h3)
    clear h1 h2 h3
    go_enter Try.func5, Try.ntmps5
    go_wp2_with fail
    refine (T1.out _).mono ?_; rintro e w1 ⟨rfl, rfl⟩
    go_wp2_with fail
    refine (T2.out _).mono ?_; rintro e w1 ⟨rfl, rfl⟩
    go_wp2_with fail
    refine (D1.out _).mono ?_; rintro e w1 ⟨rfl, rfl⟩
    go_wp2_with fail
    refine (wakes9_any _).mono ?_; rintro e w2 ⟨rfl, hb⟩
    have hb' := ((Below.refl W.heap.size W).alloc (Nat.le_refl _) _).trans (hb.mono (by simp))
    go_wp2_with fail
    go_ret
    exact ⟨rfl, hb'⟩
  have D1 := Lib.hid (width_ok h3)
  by_cases h4 : -4611686018427387904 ≤ t ∧ t ≤ 4611686018427387903
  case neg =>
    have T3 := Lib.hid (time_no h4)
    clear h1 h2 h3 h4
    go_enter Try.func5, Try.ntmps5
    go_wp2_with fail
    refine (T1.out _).mono ?_; rintro e w1 ⟨rfl, rfl⟩
    go_wp2_with fail
    refine (T2.out _).mono ?_; rintro e w1 ⟨rfl, rfl⟩
    go_wp2_with fail
    refine (D1.out _).mono ?_; rintro e w1 ⟨rfl, rfl⟩
    go_wp2_with fail
    refine (T3.out _).mono ?_; rintro e w1 ⟨rfl, rfl⟩
    go_wp2_with fail
    refine (wakes9_any _).mono ?_; rintro e w2 ⟨rfl, hb⟩
    have hb' := ((Below.refl W.heap.size W).alloc (Nat.le_refl _) _).trans (hb.mono (by simp))
    go_wp2_with fail
    go_ret
    exact ⟨rfl, hb'⟩
  have T3 := Lib.hid (time_ok h4)
  obtain ⟨h3a, h3b⟩ := h3
  obtain ⟨h1a, h1b⟩ := h1
  obtain ⟨h2a, h2b⟩ := h2
  obtain ⟨h4a, h4b⟩ := h4
  have d1 : bnd f := by unfold bnd; omega
  have d2 : bnd u := by unfold bnd; omega
  have d3 : bnd t := by unfold bnd; omega
  have z0 := wrg_ok2 h3a h3b d1 d2
  have a1 := fl_bd f n h3a
  have a2 := cl_bd u n h3a
  have a3 := fl_bd u n h3a
  have a4 := cl_bd f n h3a
  have a5 := fl_bd t n h3a
  obtain ⟨o1, ho1⟩ : ∃ x, x = OutF f u n := ⟨_, rfl⟩
  obtain ⟨o2, ho2⟩ : ∃ x, x = OutT f u n := ⟨_, rfl⟩
  obtain ⟨i1, hi1⟩ : ∃ x, x = InF f u n := ⟨_, rfl⟩
  obtain ⟨i2, hi2⟩ : ∃ x, x = InT f u n := ⟨_, rfl⟩
  have ho : (f < u ∧ o1 = fl f n ∧ o2 = cl u n) ∨ (u ≤ f ∧ o1 = 0 ∧ o2 = 0) := by
    rcases Int.lt_or_le f u with h | h
    · left; rw [ho1, ho2]; exact ⟨h, (out_val h3a z0).1 h⟩
    · right; rw [ho1, ho2]; exact ⟨h, (out_val h3a z0).2 h⟩
  have hi : (f < u ∧ cl f n < fl u n ∧ i1 = cl f n ∧ i2 = fl u n) ∨ (¬ (f < u ∧ cl f n < fl u n) ∧ i1 = 0 ∧ i2 = 0) := by
    by_cases h : f < u ∧ cl f n < fl u n
    · left; rw [hi1, hi2]; exact ⟨h.1, h.2, (in_val h3a z0).1 h⟩
    · right; rw [hi1, hi2]; exact ⟨h, (in_val h3a z0).2 h⟩
  have W0 := whole_law (t := t) h3a rfl ho hi
  have oo : bnd o1 ∧ bnd o2 ∧ OutF o1 o2 n = o1 ∧ OutT o1 o2 n = o2 := by
    rcases ho with ⟨p, e1, e2⟩ | ⟨p, e1, e2⟩
    · have b1 : bnd o1 := by unfold bnd; omega
      have b2 : bnd o2 := by unfold bnd; omega
      have v := (out_val h3a (wrg_ok2 h3a h3b b1 b2)).1 (by omega)
      refine ⟨b1, b2, ?_, ?_⟩
      · rw [v.1, e1, fl_fl]
      · rw [v.2, e2, cl_of_mult (cl_mod u n)]
    · subst e1; subst e2
      have b1 : bnd 0 := by unfold bnd; omega
      have v := (out_val h3a (wrg_ok2 h3a h3b b1 b1)).2 (by omega)
      exact ⟨b1, b1, v.1, v.2⟩
  have ii : bnd i1 ∧ bnd i2 ∧ InF i1 i2 n = i1 ∧ InT i1 i2 n = i2 := by
    rcases hi with ⟨p, p2, e1, e2⟩ | ⟨p, e1, e2⟩
    · have b1 : bnd i1 := by unfold bnd; omega
      have b2 : bnd i2 := by unfold bnd; omega
      have q1 : cl i1 n = i1 := by rw [e1]; exact cl_of_mult (cl_mod f n)
      have q2 : fl i2 n = i2 := by rw [e2]; exact fl_of_mult (fl_mod u n)
      have v := (in_val h3a (wrg_ok2 h3a h3b b1 b2)).1 (by rw [q1, q2]; omega)
      exact ⟨b1, b2, by rw [v.1, q1], by rw [v.2, q2]⟩
    · subst e1; subst e2
      have b1 : bnd 0 := by unfold bnd; omega
      have v := (in_val h3a (wrg_ok2 h3a h3b b1 b1)).2 (by omega)
      exact ⟨b1, b1, v.1, v.2⟩
  obtain ⟨w1, w2, w3, w4, w5, w6, w7⟩ := W0
  have G1 := Lib.hid (out_ok h3a h3b d1 d2 ho1.symm ho2.symm)
  have G2 := Lib.hid (in_ok h3a h3b d1 d2 hi1.symm hi2.symm)
  have G3 := Lib.hid (fun w => bkt_ok h3a h3b d3 w)
  have G4 := Lib.hid (out_ok h3a h3b oo.1 oo.2.1 oo.2.2.1 oo.2.2.2)
  have G5 := Lib.hid (in_ok h3a h3b ii.1 ii.2.1 ii.2.2.1 ii.2.2.2)
  have P1 := fun w => empty_any o1 o2 w
  have P2 := fun w => empty_any f u w
  have P3 := has_ok (f := o1) (t := o2) (x := t) rfl
  have P4 := has_ok (f := i1) (t := i2) (x := t) rfl
  have P6 := Lib.hid (and_ok (a := i1) (b := i2) (c := f) (d := u) w4 w5)
  have P7 := and_ok (a := f) (b := u) (c := o1) (d := o2) w6 w7
  have P8 := and_ok (a := f) (b := u) (c := f) (d := u) rfl rfl
  rw [w1] at P1
  rw [w2] at P3
  rw [w3] at P4
  obtain ⟨A, hA⟩ : ∃ A, A = fl t n := ⟨_, rfl⟩
  have hAn : -9223372036854775808 ≤ A + n ∧ A + n ≤ 9223372036854775807 := by omega
  rw [← hA] at G3 P3 P4
  have P5 := and_ok (a := A) (b := A + n) (c := f) (d := u) rfl rfl
  obtain ⟨x, hx⟩ : ∃ x, x = andF A (A + n) f u := ⟨_, rfl⟩
  obtain ⟨y, hy⟩ : ∃ y, y = andT A (A + n) f u := ⟨_, rfl⟩
  obtain ⟨g1, hg1⟩ : ∃ x, x = andF f u f u := ⟨_, rfl⟩
  obtain ⟨g2, hg2⟩ : ∃ x, x = andT f u f u := ⟨_, rfl⟩
  rw [← hx, ← hy] at P3 P4 P5
  rw [← hg1, ← hg2] at P7 P8
  have P9 := fun w => empty_any x y w
  obtain ⟨es, hes⟩ : ∃ b, b = decide (u ≤ f) := ⟨_, rfl⟩
  obtain ⟨p, hp⟩ : ∃ b, b = decide (y ≤ x) := ⟨_, rfl⟩
  obtain ⟨eb, heb⟩ : ∃ b, b = (decide (x = A) && decide (y = A + n)) := ⟨_, rfl⟩
  rw [← hes] at P1 P2 P4
  rw [← hp] at P3 P9
  rw [← heb] at P4
  have K1 := Lib.hid P1
  have K2 := Lib.hid P2
  have K3 := Lib.hid P3
  have K4 := Lib.hid P4
  have K5 := Lib.hid P5
  have K7 := Lib.hid P7
  have K8 := Lib.hid P8
  have K9 := Lib.hid P9
  have HE := Lib.hid heb
  clear P1 P2 P3 P4 P5 P7 P8 P9 w1 w2 w3 w4 w5 w6 w7 oo ii ho hi ho1 ho2 hi1 hi2 hx hy hg1 hg2 hes hp heb hA a1 a2 a3 a4 a5 z0 d1 d2 d3
  go_enter Try.func5, Try.ntmps5
  go_wp2_with fail
  refine (T1.out _).mono ?_; rintro e w1 ⟨rfl, rfl⟩
  go_wp2_with fail
  refine (T2.out _).mono ?_; rintro e w1 ⟨rfl, rfl⟩
  go_wp2_with fail
  refine (D1.out _).mono ?_; rintro e w1 ⟨rfl, rfl⟩
  go_wp2_with fail
  refine (T3.out _).mono ?_; rintro e w1 ⟨rfl, rfl⟩
  go_wp2_with fail
  refine (G1.out _).mono ?_; rintro e w1 ⟨rfl, hb1⟩
  have z1 := hb1.size; simp at z1
  have c1_0_0 : w1.cell? ⟨W.heap.size, 0, none⟩ = some (.int .i64 (f)) := cell_be (by simp [go_sem]) hb1 (by simp)
  have c1_0_1 : w1.cell? ⟨W.heap.size, 1, none⟩ = some (.int .i64 (u)) := cell_be (by simp [go_sem]) hb1 (by simp)
  have bel1 : Below W.heap.size W w1 := ((Below.refl W.heap.size W).alloc (Nat.le_refl _) _).trans (hb1.mono (by first | (simp; done) | (simp; omega)))
  have s1 := bel1.size
  have y1_0 : W.heap.size < w1.heap.size := by omega
  go_wp2_with fail
  refine (G2.out _).mono ?_; rintro e w2 ⟨rfl, hb2⟩
  have z2 := hb2.size; simp at z2
  have c2_0_0 : w2.cell? ⟨W.heap.size, 0, none⟩ = some (.int .i64 (f)) := cell_be (cell_al c1_0_0 (by show W.heap.size < _; omega) _) hb2 (by simp; omega)
  have c2_0_1 : w2.cell? ⟨W.heap.size, 1, none⟩ = some (.int .i64 (u)) := cell_be (cell_al c1_0_1 (by show W.heap.size < _; omega) _) hb2 (by simp; omega)
  have c2_1_0 : w2.cell? ⟨w1.heap.size, 0, none⟩ = some (.int .i64 (o1)) := cell_be (by simp [go_sem]) hb2 (by simp)
  have c2_1_1 : w2.cell? ⟨w1.heap.size, 1, none⟩ = some (.int .i64 (o2)) := cell_be (by simp [go_sem]) hb2 (by simp)
  have bel2 : Below W.heap.size W w2 := (bel1.alloc bel1.size _).trans (hb2.mono (by first | (simp; done) | (simp; omega)))
  have s2 := bel2.size
  have y2_0 : W.heap.size < w2.heap.size := by omega
  have y2_1 : w1.heap.size < w2.heap.size := by omega
  clear c1_0_0 c1_0_1
  go_wp2_with fail
  refine (G3.out _).mono ?_; rintro e w3 ⟨rfl, hb3⟩
  have z3 := hb3.size; simp at z3
  have c3_0_0 : w3.cell? ⟨W.heap.size, 0, none⟩ = some (.int .i64 (f)) := cell_be (cell_al c2_0_0 (by show W.heap.size < _; omega) _) hb3 (by simp; omega)
  have c3_0_1 : w3.cell? ⟨W.heap.size, 1, none⟩ = some (.int .i64 (u)) := cell_be (cell_al c2_0_1 (by show W.heap.size < _; omega) _) hb3 (by simp; omega)
  have c3_1_0 : w3.cell? ⟨w1.heap.size, 0, none⟩ = some (.int .i64 (o1)) := cell_be (cell_al c2_1_0 (by show w1.heap.size < _; omega) _) hb3 (by simp; omega)
  have c3_1_1 : w3.cell? ⟨w1.heap.size, 1, none⟩ = some (.int .i64 (o2)) := cell_be (cell_al c2_1_1 (by show w1.heap.size < _; omega) _) hb3 (by simp; omega)
  have c3_2_0 : w3.cell? ⟨w2.heap.size, 0, none⟩ = some (.int .i64 (i1)) := cell_be (by simp [go_sem]) hb3 (by simp)
  have c3_2_1 : w3.cell? ⟨w2.heap.size, 1, none⟩ = some (.int .i64 (i2)) := cell_be (by simp [go_sem]) hb3 (by simp)
  have bel3 : Below W.heap.size W w3 := (bel2.alloc bel2.size _).trans (hb3.mono (by first | (simp; done) | (simp; omega)))
  have s3 := bel3.size
  have y3_0 : W.heap.size < w3.heap.size := by omega
  have y3_1 : w1.heap.size < w3.heap.size := by omega
  have y3_2 : w2.heap.size < w3.heap.size := by omega
  clear c2_0_0 c2_0_1 c2_1_0 c2_1_1
  go_wp2_with fail
  refine (G4.out _).mono ?_; rintro e w4 ⟨rfl, hb4⟩
  have z4 := hb4.size; simp at z4
  have c4_0_0 : w4.cell? ⟨W.heap.size, 0, none⟩ = some (.int .i64 (f)) := cell_be (cell_al c3_0_0 (by show W.heap.size < _; omega) _) hb4 (by simp; omega)
  have c4_0_1 : w4.cell? ⟨W.heap.size, 1, none⟩ = some (.int .i64 (u)) := cell_be (cell_al c3_0_1 (by show W.heap.size < _; omega) _) hb4 (by simp; omega)
  have c4_1_0 : w4.cell? ⟨w1.heap.size, 0, none⟩ = some (.int .i64 (o1)) := cell_be (cell_al c3_1_0 (by show w1.heap.size < _; omega) _) hb4 (by simp; omega)
  have c4_1_1 : w4.cell? ⟨w1.heap.size, 1, none⟩ = some (.int .i64 (o2)) := cell_be (cell_al c3_1_1 (by show w1.heap.size < _; omega) _) hb4 (by simp; omega)
  have c4_2_0 : w4.cell? ⟨w2.heap.size, 0, none⟩ = some (.int .i64 (i1)) := cell_be (cell_al c3_2_0 (by show w2.heap.size < _; omega) _) hb4 (by simp; omega)
  have c4_2_1 : w4.cell? ⟨w2.heap.size, 1, none⟩ = some (.int .i64 (i2)) := cell_be (cell_al c3_2_1 (by show w2.heap.size < _; omega) _) hb4 (by simp; omega)
  have c4_3_0 : w4.cell? ⟨w3.heap.size, 0, none⟩ = some (.int .i64 (A)) := cell_be (by simp [go_sem]) hb4 (by simp)
  have c4_3_1 : w4.cell? ⟨w3.heap.size, 1, none⟩ = some (.int .i64 (A + n)) := cell_be (by simp [go_sem]) hb4 (by simp)
  have bel4 : Below W.heap.size W w4 := (bel3.alloc bel3.size _).trans (hb4.mono (by first | (simp; done) | (simp; omega)))
  have s4 := bel4.size
  have y4_0 : W.heap.size < w4.heap.size := by omega
  have y4_1 : w1.heap.size < w4.heap.size := by omega
  have y4_2 : w2.heap.size < w4.heap.size := by omega
  have y4_3 : w3.heap.size < w4.heap.size := by omega
  clear c3_0_0 c3_0_1 c3_1_0 c3_1_1 c3_2_0 c3_2_1
  go_wp2_with fail
  refine (G5.out _).mono ?_; rintro e w5 ⟨rfl, hb5⟩
  have z5 := hb5.size; simp at z5
  have c5_0_0 : w5.cell? ⟨W.heap.size, 0, none⟩ = some (.int .i64 (f)) := cell_be (cell_al c4_0_0 (by show W.heap.size < _; omega) _) hb5 (by simp; omega)
  have c5_0_1 : w5.cell? ⟨W.heap.size, 1, none⟩ = some (.int .i64 (u)) := cell_be (cell_al c4_0_1 (by show W.heap.size < _; omega) _) hb5 (by simp; omega)
  have c5_1_0 : w5.cell? ⟨w1.heap.size, 0, none⟩ = some (.int .i64 (o1)) := cell_be (cell_al c4_1_0 (by show w1.heap.size < _; omega) _) hb5 (by simp; omega)
  have c5_1_1 : w5.cell? ⟨w1.heap.size, 1, none⟩ = some (.int .i64 (o2)) := cell_be (cell_al c4_1_1 (by show w1.heap.size < _; omega) _) hb5 (by simp; omega)
  have c5_2_0 : w5.cell? ⟨w2.heap.size, 0, none⟩ = some (.int .i64 (i1)) := cell_be (cell_al c4_2_0 (by show w2.heap.size < _; omega) _) hb5 (by simp; omega)
  have c5_2_1 : w5.cell? ⟨w2.heap.size, 1, none⟩ = some (.int .i64 (i2)) := cell_be (cell_al c4_2_1 (by show w2.heap.size < _; omega) _) hb5 (by simp; omega)
  have c5_3_0 : w5.cell? ⟨w3.heap.size, 0, none⟩ = some (.int .i64 (A)) := cell_be (cell_al c4_3_0 (by show w3.heap.size < _; omega) _) hb5 (by simp; omega)
  have c5_3_1 : w5.cell? ⟨w3.heap.size, 1, none⟩ = some (.int .i64 (A + n)) := cell_be (cell_al c4_3_1 (by show w3.heap.size < _; omega) _) hb5 (by simp; omega)
  have c5_4_0 : w5.cell? ⟨w4.heap.size, 0, none⟩ = some (.int .i64 (o1)) := cell_be (by simp [go_sem]) hb5 (by simp)
  have c5_4_1 : w5.cell? ⟨w4.heap.size, 1, none⟩ = some (.int .i64 (o2)) := cell_be (by simp [go_sem]) hb5 (by simp)
  have bel5 : Below W.heap.size W w5 := (bel4.alloc bel4.size _).trans (hb5.mono (by first | (simp; done) | (simp; omega)))
  have s5 := bel5.size
  have y5_0 : W.heap.size < w5.heap.size := by omega
  have y5_1 : w1.heap.size < w5.heap.size := by omega
  have y5_2 : w2.heap.size < w5.heap.size := by omega
  have y5_3 : w3.heap.size < w5.heap.size := by omega
  have y5_4 : w4.heap.size < w5.heap.size := by omega
  clear c4_0_0 c4_0_1 c4_1_0 c4_1_1 c4_2_0 c4_2_1 c4_3_0 c4_3_1
  obtain ⟨w6, hw6⟩ : ∃ w6, w6 = w5.alloc (.cells #[.int .i64 i1, .int .i64 i2] 23) := ⟨_, rfl⟩
  have z6 : w6.heap.size = w5.heap.size + 1 := by rw [hw6]; simp
  have bel6 : Below W.heap.size W w6 := by rw [hw6]; exact bel5.alloc bel5.size _
  have d0_0 : w6.cell? ⟨W.heap.size, 0, none⟩ = some (.int .i64 (f)) := by rw [hw6]; exact cell_al c5_0_0 (by show W.heap.size < _; omega) _
  have d0_1 : w6.cell? ⟨W.heap.size, 1, none⟩ = some (.int .i64 (u)) := by rw [hw6]; exact cell_al c5_0_1 (by show W.heap.size < _; omega) _
  have d1_0 : w6.cell? ⟨w1.heap.size, 0, none⟩ = some (.int .i64 (o1)) := by rw [hw6]; exact cell_al c5_1_0 (by show w1.heap.size < _; omega) _
  have d1_1 : w6.cell? ⟨w1.heap.size, 1, none⟩ = some (.int .i64 (o2)) := by rw [hw6]; exact cell_al c5_1_1 (by show w1.heap.size < _; omega) _
  have d2_0 : w6.cell? ⟨w2.heap.size, 0, none⟩ = some (.int .i64 (i1)) := by rw [hw6]; exact cell_al c5_2_0 (by show w2.heap.size < _; omega) _
  have d2_1 : w6.cell? ⟨w2.heap.size, 1, none⟩ = some (.int .i64 (i2)) := by rw [hw6]; exact cell_al c5_2_1 (by show w2.heap.size < _; omega) _
  have d3_0 : w6.cell? ⟨w3.heap.size, 0, none⟩ = some (.int .i64 (A)) := by rw [hw6]; exact cell_al c5_3_0 (by show w3.heap.size < _; omega) _
  have d3_1 : w6.cell? ⟨w3.heap.size, 1, none⟩ = some (.int .i64 (A + n)) := by rw [hw6]; exact cell_al c5_3_1 (by show w3.heap.size < _; omega) _
  have d4_0 : w6.cell? ⟨w4.heap.size, 0, none⟩ = some (.int .i64 (o1)) := by rw [hw6]; exact cell_al c5_4_0 (by show w4.heap.size < _; omega) _
  have d4_1 : w6.cell? ⟨w4.heap.size, 1, none⟩ = some (.int .i64 (o2)) := by rw [hw6]; exact cell_al c5_4_1 (by show w4.heap.size < _; omega) _
  have d5_0 : w6.cell? ⟨w5.heap.size, 0, none⟩ = some (.int .i64 (i1)) := by rw [hw6]; simp [go_sem]
  have d5_1 : w6.cell? ⟨w5.heap.size, 1, none⟩ = some (.int .i64 (i2)) := by rw [hw6]; simp [go_sem]
  have J : ∀ w', Below w6.heap.size w6 w' → (w'.cell? ⟨W.heap.size, 0, none⟩ = some (.int .i64 (f)) ∧ w'.cell? ⟨W.heap.size, 1, none⟩ = some (.int .i64 (u)) ∧ w'.cell? ⟨w1.heap.size, 0, none⟩ = some (.int .i64 (o1)) ∧ w'.cell? ⟨w1.heap.size, 1, none⟩ = some (.int .i64 (o2)) ∧ w'.cell? ⟨w2.heap.size, 0, none⟩ = some (.int .i64 (i1)) ∧ w'.cell? ⟨w2.heap.size, 1, none⟩ = some (.int .i64 (i2)) ∧ w'.cell? ⟨w3.heap.size, 0, none⟩ = some (.int .i64 (A)) ∧ w'.cell? ⟨w3.heap.size, 1, none⟩ = some (.int .i64 (A + n)) ∧ w'.cell? ⟨w4.heap.size, 0, none⟩ = some (.int .i64 (o1)) ∧ w'.cell? ⟨w4.heap.size, 1, none⟩ = some (.int .i64 (o2)) ∧ w'.cell? ⟨w5.heap.size, 0, none⟩ = some (.int .i64 (i1)) ∧ w'.cell? ⟨w5.heap.size, 1, none⟩ = some (.int .i64 (i2))) := fun w' h => ⟨cell_be d0_0 h (by show W.heap.size < _; omega), cell_be d0_1 h (by show W.heap.size < _; omega), cell_be d1_0 h (by show w1.heap.size < _; omega), cell_be d1_1 h (by show w1.heap.size < _; omega), cell_be d2_0 h (by show w2.heap.size < _; omega), cell_be d2_1 h (by show w2.heap.size < _; omega), cell_be d3_0 h (by show w3.heap.size < _; omega), cell_be d3_1 h (by show w3.heap.size < _; omega), cell_be d4_0 h (by show w4.heap.size < _; omega), cell_be d4_1 h (by show w4.heap.size < _; omega), cell_be d5_0 h (by show w5.heap.size < _; omega), cell_be d5_1 h (by show w5.heap.size < _; omega)⟩
  go_wp2_with fail
  rw [← hw6]
  clear hw6 c5_0_0 d0_0 c5_0_1 d0_1 c5_1_0 d1_0 c5_1_1 d1_1 c5_2_0 d2_0 c5_2_1 d2_1 c5_3_0 d3_0 c5_3_1 d3_1 c5_4_0 d4_0 c5_4_1 d4_1
  have hS0 : Below w6.heap.size w6 w6 := Below.refl _ _
  have hA0 : -9223372036854775808 ≤ A + n ∧ A + n ≤ 9223372036854775807 := hAn
  refine ah_start 23 (fun w' => Below w6.heap.size w6 w') rfl (by kernel_rfl) (hS0).drew ?_
  intro hS
  (refine mv_val 0 (v := ?_) rfl (by kernel_rfl) (by kernel_rfl) (by kernel_rfl) (fun _ _ _ h => h) (by rfl) hS ?_ ?_; rotate_left; (focus (intro w hSw; (try dsimp only at hSw); (have f1 := J w hSw; have f9 := hA0); go_simp; first | done | with_reducible rfl)); simp only [Act.put, List.setIfInBounds_toArray, List.set_cons_zero, List.set_cons_succ])
  (refine mv_val 1 (v := ?_) rfl (by kernel_rfl) (by kernel_rfl) (by kernel_rfl) (fun _ _ _ h => h) (by rfl) hS ?_ ?_; rotate_left; (focus (intro w hSw; (try dsimp only at hSw); (have f1 := J w hSw; have f9 := hA0); go_simp; first | done | with_reducible rfl)); simp only [Act.put, List.setIfInBounds_toArray, List.set_cons_zero, List.set_cons_succ])
  (refine mv_val 2 (v := ?_) rfl (by kernel_rfl) (by kernel_rfl) (by kernel_rfl) (fun _ _ _ h => h) (by rfl) hS ?_ ?_; rotate_left; (focus (intro w hSw; (try dsimp only at hSw); (have f1 := J w hSw; have f9 := hA0); go_simp; first | done | with_reducible rfl)); simp only [Act.put, List.setIfInBounds_toArray, List.set_cons_zero, List.set_cons_succ])
  (refine mv_val 3 (v := ?_) rfl (by kernel_rfl) (by kernel_rfl) (by kernel_rfl) (fun _ _ _ h => h) (by rfl) hS ?_ ?_; rotate_left; (focus (intro w hSw; (try dsimp only at hSw); (have f1 := J w hSw; have f9 := hA0); go_simp; first | done | with_reducible rfl)); simp only [Act.put, List.setIfInBounds_toArray, List.set_cons_zero, List.set_cons_succ])
  (refine mv_val 4 (v := ?_) rfl (by kernel_rfl) (by kernel_rfl) (by kernel_rfl) (fun _ _ _ h => h) (by rfl) hS ?_ ?_; rotate_left; (focus (intro w hSw; (try dsimp only at hSw); (have f1 := J w hSw; have f9 := hA0); go_simp; first | done | with_reducible rfl)); simp only [Act.put, List.setIfInBounds_toArray, List.set_cons_zero, List.set_cons_succ])
  (refine mv_val 5 (v := ?_) rfl (by kernel_rfl) (by kernel_rfl) (by kernel_rfl) (fun _ _ _ h => h) (by rfl) hS ?_ ?_; rotate_left; (focus (intro w hSw; (try dsimp only at hSw); (have f1 := J w hSw; have f9 := hA0); go_simp; first | done | with_reducible rfl)); simp only [Act.put, List.setIfInBounds_toArray, List.set_cons_zero, List.set_cons_succ])
  (refine mv_val 6 (v := ?_) rfl (by kernel_rfl) (by kernel_rfl) (by kernel_rfl) (fun _ _ _ h => h) (by rfl) hS ?_ ?_; rotate_left; (focus (intro w hSw; (try dsimp only at hSw); (have f1 := J w hSw; have f9 := hA0); go_simp; first | done | with_reducible rfl)); simp only [Act.put, List.setIfInBounds_toArray, List.set_cons_zero, List.set_cons_succ])
  (refine mv_val 7 (v := ?_) rfl (by kernel_rfl) (by kernel_rfl) (by kernel_rfl) (fun _ _ _ h => h) (by rfl) hS ?_ ?_; rotate_left; (focus (intro w hSw; (try dsimp only at hSw); (have f1 := J w hSw; have f9 := hA0); go_simp; first | done | with_reducible rfl)); simp only [Act.put, List.setIfInBounds_toArray, List.set_cons_zero, List.set_cons_succ])
  (refine mv_val 8 (v := ?_) rfl (by kernel_rfl) (by kernel_rfl) (by kernel_rfl) (fun _ _ _ h => h) (by rfl) hS ?_ ?_; rotate_left; (focus (intro w hSw; (try dsimp only at hSw); (have f1 := J w hSw; have f9 := hA0); go_simp; first | done | with_reducible rfl)); simp only [Act.put, List.setIfInBounds_toArray, List.set_cons_zero, List.set_cons_succ])
  (refine mv_val 9 (v := ?_) rfl (by kernel_rfl) (by kernel_rfl) (by kernel_rfl) (fun _ _ _ h => h) (by rfl) hS ?_ ?_; rotate_left; (focus (intro w hSw; (try dsimp only at hSw); (have f1 := J w hSw; have f9 := hA0); go_simp; first | done | with_reducible rfl)); simp only [Act.put, List.setIfInBounds_toArray, List.set_cons_zero, List.set_cons_succ])
  (refine mv_val 10 (v := ?_) rfl (by kernel_rfl) (by kernel_rfl) (by kernel_rfl) (fun _ _ _ h => h) (by rfl) hS ?_ ?_; rotate_left; (focus (intro w hSw; (try dsimp only at hSw); (have f1 := J w hSw; have f9 := hA0); go_simp; first | done | with_reducible rfl)); simp only [Act.put, List.setIfInBounds_toArray, List.set_cons_zero, List.set_cons_succ])
  (refine mv_val 11 (v := ?_) rfl (by kernel_rfl) (by kernel_rfl) (by kernel_rfl) (fun _ _ _ h => h) (by rfl) hS ?_ ?_; rotate_left; (focus (intro w hSw; (try dsimp only at hSw); (have f1 := J w hSw; have f9 := hA0); go_simp; first | done | with_reducible rfl)); simp only [Act.put, List.setIfInBounds_toArray, List.set_cons_zero, List.set_cons_succ])
  (refine mv_val 12 (v := ?_) rfl (by kernel_rfl) (by kernel_rfl) (by kernel_rfl) (fun _ _ _ h => h) (by rfl) hS ?_ ?_; rotate_left; (focus (intro w hSw; (try dsimp only at hSw); (have f1 := J w hSw; have f9 := hA0); go_simp; first | done | with_reducible rfl)); simp only [Act.put, List.setIfInBounds_toArray, List.set_cons_zero, List.set_cons_succ])
  (refine mv_val 13 (v := ?_) rfl (by kernel_rfl) (by kernel_rfl) (by kernel_rfl) (fun _ _ _ h => h) (by rfl) hS ?_ ?_; rotate_left; (focus (intro w hSw; (try dsimp only at hSw); (have f1 := J w hSw; have f9 := hA0); go_simp; first | done | with_reducible rfl)); simp only [Act.put, List.setIfInBounds_toArray, List.set_cons_zero, List.set_cons_succ])
  (refine mv_val 14 (v := ?_) rfl (by kernel_rfl) (by kernel_rfl) (by kernel_rfl) (fun _ _ _ h => h) (by rfl) hS ?_ ?_; rotate_left; (focus (intro w hSw; (try dsimp only at hSw); (have f1 := J w hSw; have f9 := hA0); go_simp; first | done | with_reducible rfl)); simp only [Act.put, List.setIfInBounds_toArray, List.set_cons_zero, List.set_cons_succ])
  (refine mv_val 15 (v := ?_) rfl (by kernel_rfl) (by kernel_rfl) (by kernel_rfl) (fun _ _ _ h => h) (by rfl) hS ?_ ?_; rotate_left; (focus (intro w hSw; (try dsimp only at hSw); (have f1 := J w hSw; have f9 := hA0); go_simp; first | done | with_reducible rfl)); simp only [Act.put, List.setIfInBounds_toArray, List.set_cons_zero, List.set_cons_succ])
  (refine mv_val 16 (v := ?_) rfl (by kernel_rfl) (by kernel_rfl) (by kernel_rfl) (fun _ _ _ h => h) (by rfl) hS ?_ ?_; rotate_left; (focus (intro w hSw; (try dsimp only at hSw); (have f1 := J w hSw; have f9 := hA0); go_simp; first | done | with_reducible rfl)); simp only [Act.put, List.setIfInBounds_toArray, List.set_cons_zero, List.set_cons_succ])
  (refine mv_val 17 (v := ?_) rfl (by kernel_rfl) (by kernel_rfl) (by kernel_rfl) (fun _ _ _ h => h) (by rfl) hS ?_ ?_; rotate_left; (focus (intro w hSw; (try dsimp only at hSw); (have f1 := J w hSw; have f9 := hA0); go_simp; first | done | with_reducible rfl)); simp only [Act.put, List.setIfInBounds_toArray, List.set_cons_zero, List.set_cons_succ])
  (refine mv_val 19 (v := ?_) rfl (by kernel_rfl) (by kernel_rfl) (by kernel_rfl) (fun _ _ _ h => h) (by rfl) hS ?_ ?_; rotate_left; (focus (intro w hSw; (try dsimp only at hSw); (have f1 := J w hSw; have f9 := hA0); go_simp; first | done | with_reducible rfl)); simp only [Act.put, List.setIfInBounds_toArray, List.set_cons_zero, List.set_cons_succ])
  (refine mv_call 18 (f := ?_) (args := ?_) rfl (by kernel_rfl) (by rfl) ?_ ?_; rotate_left 2; (focus (go_simp; first | done | with_reducible rfl | (refine ⟨?_, ?_⟩ <;> with_reducible rfl))))
  refine (K1.out _).mono ?_; rintro e v10_0 ⟨rfl, hv10_0⟩
  have hT : Below w6.heap.size w6 v10_0 := hS.trans (hv10_0.mono hS.size)
  refine ⟨_, rfl, hT, ?_⟩
  replace hS := hT
  clear hT
  simp only [Act.put, List.setIfInBounds_toArray, List.set_cons_zero, List.set_cons_succ]
  (refine mv_call 20 (f := ?_) (args := ?_) rfl (by kernel_rfl) (by rfl) ?_ ?_; rotate_left 2; (focus (go_simp; first | done | with_reducible rfl | (refine ⟨?_, ?_⟩ <;> with_reducible rfl))))
  refine (K2.out _).mono ?_; rintro e v10_1 ⟨rfl, hv10_1⟩
  have hT : Below w6.heap.size w6 v10_1 := hS.trans (hv10_1.mono hS.size)
  refine ⟨_, rfl, hT, ?_⟩
  replace hS := hT
  clear hT
  simp only [Act.put, List.setIfInBounds_toArray, List.set_cons_zero, List.set_cons_succ]
  (refine mv_val 21 (v := ?_) rfl (by kernel_rfl) (by kernel_rfl) (by kernel_rfl) (fun _ _ _ h => h) (by rfl) hS ?_ ?_; rotate_left; (focus (intro w hSw; (try dsimp only at hSw); (have f1 := J w hSw; have f9 := hA0); go_simp; first | done | with_reducible rfl)); simp only [Act.put, List.setIfInBounds_toArray, List.set_cons_zero, List.set_cons_succ])
  (refine mv_val 22 (v := ?_) rfl (by kernel_rfl) (by kernel_rfl) (by kernel_rfl) (fun _ _ _ h => h) (by rfl) hS ?_ ?_; rotate_left; (focus (intro w hSw; (try dsimp only at hSw); (have f1 := J w hSw; have f9 := hA0); go_simp; first | done | with_reducible rfl)); simp only [Act.put, List.setIfInBounds_toArray, List.set_cons_zero, List.set_cons_succ])
  refine wpAnyH_done (by kernel_rfl) ?_ _
  go_wp2_with fail
  have hS0 := hS; clear hS
  refine ah_start 9 (fun w' => Below w6.heap.size w6 w') rfl (by kernel_rfl) (hS0).drew ?_
  intro hS
  (refine mv_val 0 (v := ?_) rfl (by kernel_rfl) (by kernel_rfl) (by kernel_rfl) (fun _ _ _ h => h) (by rfl) hS ?_ ?_; rotate_left; (focus (intro w hSw; (try dsimp only at hSw); (have f1 := J w hSw; have f9 := hA0); go_simp; first | done | with_reducible rfl)); simp only [Act.put, List.setIfInBounds_toArray, List.set_cons_zero, List.set_cons_succ])
  (refine mv_val 1 (v := ?_) rfl (by kernel_rfl) (by kernel_rfl) (by kernel_rfl) (fun _ _ _ h => h) (by rfl) hS ?_ ?_; rotate_left; (focus (intro w hSw; (try dsimp only at hSw); (have f1 := J w hSw; have f9 := hA0); go_simp; first | done | with_reducible rfl)); simp only [Act.put, List.setIfInBounds_toArray, List.set_cons_zero, List.set_cons_succ])
  (refine mv_val 3 (v := ?_) rfl (by kernel_rfl) (by kernel_rfl) (by kernel_rfl) (fun _ _ _ h => h) (by rfl) hS ?_ ?_; rotate_left; (focus (intro w hSw; (try dsimp only at hSw); (have f1 := J w hSw; have f9 := hA0); go_simp; first | done | with_reducible rfl)); simp only [Act.put, List.setIfInBounds_toArray, List.set_cons_zero, List.set_cons_succ])
  (refine mv_val 4 (v := ?_) rfl (by kernel_rfl) (by kernel_rfl) (by kernel_rfl) (fun _ _ _ h => h) (by rfl) hS ?_ ?_; rotate_left; (focus (intro w hSw; (try dsimp only at hSw); (have f1 := J w hSw; have f9 := hA0); go_simp; first | done | with_reducible rfl)); simp only [Act.put, List.setIfInBounds_toArray, List.set_cons_zero, List.set_cons_succ])
  (refine mv_call 2 (f := ?_) (args := ?_) rfl (by kernel_rfl) (by rfl) ?_ ?_; rotate_left 2; (focus (go_simp; first | done | with_reducible rfl | (refine ⟨?_, ?_⟩ <;> with_reducible rfl))))
  refine (K3.out _).mono ?_; rintro e v12_0 ⟨rfl, hv12_0⟩
  have hT : Below w6.heap.size w6 v12_0 := hS.trans (hv12_0.mono hS.size)
  refine ⟨_, rfl, hT, ?_⟩
  replace hS := hT
  clear hT
  simp only [Act.put, List.setIfInBounds_toArray, List.set_cons_zero, List.set_cons_succ]
  (refine mv_call 5 (f := ?_) (args := ?_) rfl (by kernel_rfl) (by rfl) ?_ ?_; rotate_left 2; (focus (go_simp; first | done | with_reducible rfl | (refine ⟨?_, ?_⟩ <;> with_reducible rfl))))
  refine (K5.out _).mono ?_; rintro e v12_1 ⟨rfl, hv12_1⟩
  have hT : Below w6.heap.size w6 v12_1 := hS.trans (hv12_1.mono hS.size)
  refine ⟨_, rfl, hT, ?_⟩
  replace hS := hT
  clear hT
  simp only [Act.put, List.setIfInBounds_toArray, List.set_cons_zero, List.set_cons_succ]
  (refine mv_call 6 (f := ?_) (args := ?_) rfl (by kernel_rfl) (by rfl) ?_ ?_; rotate_left 2; (focus (go_simp; first | done | with_reducible rfl | (refine ⟨?_, ?_⟩ <;> with_reducible rfl))))
  refine (K9.out _).mono ?_; rintro e v12_2 ⟨rfl, hv12_2⟩
  have hT : Below w6.heap.size w6 v12_2 := hS.trans (hv12_2.mono hS.size)
  refine ⟨_, rfl, hT, ?_⟩
  replace hS := hT
  clear hT
  simp only [Act.put, List.setIfInBounds_toArray, List.set_cons_zero, List.set_cons_succ]
  (refine mv_val 7 (v := ?_) rfl (by kernel_rfl) (by kernel_rfl) (by kernel_rfl) (fun _ _ _ h => h) (by rfl) hS ?_ ?_; rotate_left; (focus (intro w hSw; (try dsimp only at hSw); (have f1 := J w hSw; have f9 := hA0); go_simp; first | done | with_reducible rfl)); simp only [Act.put, List.setIfInBounds_toArray, List.set_cons_zero, List.set_cons_succ])
  (refine mv_val 8 (v := ?_) rfl (by kernel_rfl) (by kernel_rfl) (by kernel_rfl) (fun _ _ _ h => h) (by rfl) hS ?_ ?_; rotate_left; (focus (intro w hSw; (try dsimp only at hSw); (have f1 := J w hSw; have f9 := hA0); go_simp; first | done | with_reducible rfl)); simp only [Act.put, List.setIfInBounds_toArray, List.set_cons_zero, List.set_cons_succ])
  refine wpAnyH_done (by kernel_rfl) ?_ _
  go_wp2_with fail
  have hS0 := hS; clear hS
  have P4 := K4.out
  clear K4
  cases es
  case true =>
    simp only [Bool.not_true, Bool.false_and] at P4
    have K4 := Lib.hid P4
    clear P4
    refine ah_start 34 (fun w' => Below w6.heap.size w6 w') rfl (by kernel_rfl) (hS0).drew ?_
    intro hS
    (refine mv_val 0 (v := ?_) rfl (by kernel_rfl) (by kernel_rfl) (by kernel_rfl) (fun _ _ _ h => h) (by rfl) hS ?_ ?_; rotate_left; (focus (intro w hSw; (try dsimp only at hSw); (have f1 := J w hSw; have f9 := hA0); go_simp; first | done | with_reducible rfl)); simp only [Act.put, List.setIfInBounds_toArray, List.set_cons_zero, List.set_cons_succ])
    (refine mv_val 1 (v := ?_) rfl (by kernel_rfl) (by kernel_rfl) (by kernel_rfl) (fun _ _ _ h => h) (by rfl) hS ?_ ?_; rotate_left; (focus (intro w hSw; (try dsimp only at hSw); (have f1 := J w hSw; have f9 := hA0); go_simp; first | done | with_reducible rfl)); simp only [Act.put, List.setIfInBounds_toArray, List.set_cons_zero, List.set_cons_succ])
    (refine mv_val 3 (v := ?_) rfl (by kernel_rfl) (by kernel_rfl) (by kernel_rfl) (fun _ _ _ h => h) (by rfl) hS ?_ ?_; rotate_left; (focus (intro w hSw; (try dsimp only at hSw); (have f1 := J w hSw; have f9 := hA0); go_simp; first | done | with_reducible rfl)); simp only [Act.put, List.setIfInBounds_toArray, List.set_cons_zero, List.set_cons_succ])
    (refine mv_call 2 (f := ?_) (args := ?_) rfl (by kernel_rfl) (by rfl) ?_ ?_; rotate_left 2; (focus (go_simp; first | done | with_reducible rfl | (refine ⟨?_, ?_⟩ <;> with_reducible rfl))))
    refine (K4.out _).mono ?_; rintro e v14_0 ⟨rfl, hv14⟩
    have hT : Below w6.heap.size w6 v14_0 := hS.trans (hv14.mono hS.size)
    refine ⟨_, rfl, hT, ?_⟩
    replace hS := hT
    clear hT hv14
    simp only [Act.put, List.setIfInBounds_toArray, List.set_cons_zero, List.set_cons_succ]
    (refine mv_call 4 (f := ?_) (args := ?_) rfl (by kernel_rfl) (by rfl) ?_ ?_; rotate_left 2; (focus (go_simp; first | done | with_reducible rfl | (refine ⟨?_, ?_⟩ <;> with_reducible rfl))))
    refine (K2.out _).mono ?_; rintro e v14_1 ⟨rfl, hv14⟩
    have hT : Below w6.heap.size w6 v14_1 := hS.trans (hv14.mono hS.size)
    refine ⟨_, rfl, hT, ?_⟩
    replace hS := hT
    clear hT hv14
    simp only [Act.put, List.setIfInBounds_toArray, List.set_cons_zero, List.set_cons_succ]
    (refine mv_val 5 (v := ?_) rfl (by kernel_rfl) (by kernel_rfl) (by kernel_rfl) (fun _ _ _ h => h) (by rfl) hS ?_ ?_; rotate_left; (focus (intro w hSw; (try dsimp only at hSw); (have f1 := J w hSw; have f9 := hA0); go_simp; first | done | with_reducible rfl)); simp only [Act.put, List.setIfInBounds_toArray, List.set_cons_zero, List.set_cons_succ])
    (refine mv_val 6 (v := ?_) rfl (by kernel_rfl) (by kernel_rfl) (by kernel_rfl) (fun _ _ _ h => h) (by rfl) hS ?_ ?_; rotate_left; (focus (intro w hSw; (try dsimp only at hSw); (have f1 := J w hSw; have f9 := hA0); go_simp; first | done | with_reducible rfl)); simp only [Act.put, List.setIfInBounds_toArray, List.set_cons_zero, List.set_cons_succ])
    (refine mv_skip 7 rfl (by kernel_rfl) (by kernel_rfl) (by kernel_rfl) (fun _ _ _ h => h) (by rfl) hS ?_; simp only [Act.put, List.setIfInBounds_toArray, List.set_cons_zero, List.set_cons_succ])
    (refine mv_skip 8 rfl (by kernel_rfl) (by kernel_rfl) (by kernel_rfl) (fun _ _ _ h => h) (by rfl) hS ?_; simp only [Act.put, List.setIfInBounds_toArray, List.set_cons_zero, List.set_cons_succ])
    (refine mv_skip 9 rfl (by kernel_rfl) (by kernel_rfl) (by kernel_rfl) (fun _ _ _ h => h) (by rfl) hS ?_; simp only [Act.put, List.setIfInBounds_toArray, List.set_cons_zero, List.set_cons_succ])
    (refine mv_skip 10 rfl (by kernel_rfl) (by kernel_rfl) (by kernel_rfl) (fun _ _ _ h => h) (by rfl) hS ?_; simp only [Act.put, List.setIfInBounds_toArray, List.set_cons_zero, List.set_cons_succ])
    (refine mv_skip 11 rfl (by kernel_rfl) (by kernel_rfl) (by kernel_rfl) (fun _ _ _ h => h) (by rfl) hS ?_; simp only [Act.put, List.setIfInBounds_toArray, List.set_cons_zero, List.set_cons_succ])
    (refine mv_val 12 (v := ?_) rfl (by kernel_rfl) (by kernel_rfl) (by kernel_rfl) (fun _ _ _ h => h) (by rfl) hS ?_ ?_; rotate_left; (focus (intro w hSw; (try dsimp only at hSw); (have f1 := J w hSw; have f9 := hA0); go_simp; first | done | with_reducible rfl)); simp only [Act.put, List.setIfInBounds_toArray, List.set_cons_zero, List.set_cons_succ])
    (refine mv_val 13 (v := ?_) rfl (by kernel_rfl) (by kernel_rfl) (by kernel_rfl) (fun _ _ _ h => h) (by rfl) hS ?_ ?_; rotate_left; (focus (intro w hSw; (try dsimp only at hSw); (have f1 := J w hSw; have f9 := hA0); go_simp; first | done | with_reducible rfl)); simp only [Act.put, List.setIfInBounds_toArray, List.set_cons_zero, List.set_cons_succ])
    (refine mv_val 14 (v := ?_) rfl (by kernel_rfl) (by kernel_rfl) (by kernel_rfl) (fun _ _ _ h => h) (by rfl) hS ?_ ?_; rotate_left; (focus (intro w hSw; (try dsimp only at hSw); (have f1 := J w hSw; have f9 := hA0); go_simp; first | done | with_reducible rfl)); simp only [Act.put, List.setIfInBounds_toArray, List.set_cons_zero, List.set_cons_succ])
    (refine mv_val 15 (v := ?_) rfl (by kernel_rfl) (by kernel_rfl) (by kernel_rfl) (fun _ _ _ h => h) (by rfl) hS ?_ ?_; rotate_left; (focus (intro w hSw; (try dsimp only at hSw); (have f1 := J w hSw; have f9 := hA0); go_simp; first | done | with_reducible rfl)); simp only [Act.put, List.setIfInBounds_toArray, List.set_cons_zero, List.set_cons_succ])
    (refine mv_val 16 (v := ?_) rfl (by kernel_rfl) (by kernel_rfl) (by kernel_rfl) (fun _ _ _ h => h) (by rfl) hS ?_ ?_; rotate_left; (focus (intro w hSw; (try dsimp only at hSw); (have f1 := J w hSw; have f9 := hA0); go_simp; first | done | with_reducible rfl)); simp only [Act.put, List.setIfInBounds_toArray, List.set_cons_zero, List.set_cons_succ])
    (refine mv_val 18 (v := ?_) rfl (by kernel_rfl) (by kernel_rfl) (by kernel_rfl) (fun _ _ _ h => h) (by rfl) hS ?_ ?_; rotate_left; (focus (intro w hSw; (try dsimp only at hSw); (have f1 := J w hSw; have f9 := hA0); go_simp; first | done | with_reducible rfl)); simp only [Act.put, List.setIfInBounds_toArray, List.set_cons_zero, List.set_cons_succ])
    (refine mv_call 17 (f := ?_) (args := ?_) rfl (by kernel_rfl) (by rfl) ?_ ?_; rotate_left 2; (focus (go_simp; first | done | with_reducible rfl | (refine ⟨?_, ?_⟩ <;> with_reducible rfl))))
    refine (P6.out _).mono ?_; rintro e v14_2 ⟨rfl, hv14⟩
    have hT : Below w6.heap.size w6 v14_2 := hS.trans (hv14.mono hS.size)
    refine ⟨_, rfl, hT, ?_⟩
    replace hS := hT
    clear hT hv14
    simp only [Act.put, List.setIfInBounds_toArray, List.set_cons_zero, List.set_cons_succ]
    (refine mv_val 19 (v := ?_) rfl (by kernel_rfl) (by kernel_rfl) (by kernel_rfl) (fun _ _ _ h => h) (by rfl) hS ?_ ?_; rotate_left; (focus (intro w hSw; (try dsimp only at hSw); (have f1 := J w hSw; have f9 := hA0); go_simp; first | done | with_reducible rfl)); simp only [Act.put, List.setIfInBounds_toArray, List.set_cons_zero, List.set_cons_succ])
    (refine mv_val 20 (v := ?_) rfl (by kernel_rfl) (by kernel_rfl) (by kernel_rfl) (fun _ _ _ h => h) (by rfl) hS ?_ ?_; rotate_left; (focus (intro w hSw; (try dsimp only at hSw); (have f1 := J w hSw; have f9 := hA0); go_simp; first | done | with_reducible rfl)); simp only [Act.put, List.setIfInBounds_toArray, List.set_cons_zero, List.set_cons_succ])
    (refine mv_val 21 (v := ?_) rfl (by kernel_rfl) (by kernel_rfl) (by kernel_rfl) (fun _ _ _ h => h) (by rfl) hS ?_ ?_; rotate_left; (focus (intro w hSw; (try dsimp only at hSw); (have f1 := J w hSw; have f9 := hA0); go_simp; first | done | with_reducible rfl)); simp only [Act.put, List.setIfInBounds_toArray, List.set_cons_zero, List.set_cons_succ])
    (refine mv_val 22 (v := ?_) rfl (by kernel_rfl) (by kernel_rfl) (by kernel_rfl) (fun _ _ _ h => h) (by rfl) hS ?_ ?_; rotate_left; (focus (intro w hSw; (try dsimp only at hSw); (have f1 := J w hSw; have f9 := hA0); go_simp; first | done | with_reducible rfl)); simp only [Act.put, List.setIfInBounds_toArray, List.set_cons_zero, List.set_cons_succ])
    (refine mv_val 23 (v := ?_) rfl (by kernel_rfl) (by kernel_rfl) (by kernel_rfl) (fun _ _ _ h => h) (by rfl) hS ?_ ?_; rotate_left; (focus (intro w hSw; (try dsimp only at hSw); (have f1 := J w hSw; have f9 := hA0); go_simp; first | done | with_reducible rfl)); simp only [Act.put, List.setIfInBounds_toArray, List.set_cons_zero, List.set_cons_succ])
    (refine mv_val 25 (v := ?_) rfl (by kernel_rfl) (by kernel_rfl) (by kernel_rfl) (fun _ _ _ h => h) (by rfl) hS ?_ ?_; rotate_left; (focus (intro w hSw; (try dsimp only at hSw); (have f1 := J w hSw; have f9 := hA0); go_simp; first | done | with_reducible rfl)); simp only [Act.put, List.setIfInBounds_toArray, List.set_cons_zero, List.set_cons_succ])
    (refine mv_val 26 (v := ?_) rfl (by kernel_rfl) (by kernel_rfl) (by kernel_rfl) (fun _ _ _ h => h) (by rfl) hS ?_ ?_; rotate_left; (focus (intro w hSw; (try dsimp only at hSw); (have f1 := J w hSw; have f9 := hA0); go_simp; first | done | with_reducible rfl)); simp only [Act.put, List.setIfInBounds_toArray, List.set_cons_zero, List.set_cons_succ])
    (refine mv_call 24 (f := ?_) (args := ?_) rfl (by kernel_rfl) (by rfl) ?_ ?_; rotate_left 2; (focus (go_simp; first | done | with_reducible rfl | (refine ⟨?_, ?_⟩ <;> with_reducible rfl))))
    refine (K7.out _).mono ?_; rintro e v14_3 ⟨rfl, hv14⟩
    have hT : Below w6.heap.size w6 v14_3 := hS.trans (hv14.mono hS.size)
    refine ⟨_, rfl, hT, ?_⟩
    replace hS := hT
    clear hT hv14
    simp only [Act.put, List.setIfInBounds_toArray, List.set_cons_zero, List.set_cons_succ]
    (refine mv_call 27 (f := ?_) (args := ?_) rfl (by kernel_rfl) (by rfl) ?_ ?_; rotate_left 2; (focus (go_simp; first | done | with_reducible rfl | (refine ⟨?_, ?_⟩ <;> with_reducible rfl))))
    refine (K8.out _).mono ?_; rintro e v14_4 ⟨rfl, hv14⟩
    have hT : Below w6.heap.size w6 v14_4 := hS.trans (hv14.mono hS.size)
    refine ⟨_, rfl, hT, ?_⟩
    replace hS := hT
    clear hT hv14
    simp only [Act.put, List.setIfInBounds_toArray, List.set_cons_zero, List.set_cons_succ]
    (refine mv_val 28 (v := ?_) rfl (by kernel_rfl) (by kernel_rfl) (by kernel_rfl) (fun _ _ _ h => h) (by rfl) hS ?_ ?_; rotate_left; (focus (intro w hSw; (try dsimp only at hSw); (have f1 := J w hSw; have f9 := hA0); go_simp; first | done | with_reducible rfl)); simp only [Act.put, List.setIfInBounds_toArray, List.set_cons_zero, List.set_cons_succ])
    (refine mv_val 29 (v := ?_) rfl (by kernel_rfl) (by kernel_rfl) (by kernel_rfl) (fun _ _ _ h => h) (by rfl) hS ?_ ?_; rotate_left; (focus (intro w hSw; (try dsimp only at hSw); (have f1 := J w hSw; have f9 := hA0); go_simp; first | done | with_reducible rfl)); simp only [Act.put, List.setIfInBounds_toArray, List.set_cons_zero, List.set_cons_succ])
    (refine mv_val 30 (v := ?_) rfl (by kernel_rfl) (by kernel_rfl) (by kernel_rfl) (fun _ _ _ h => h) (by rfl) hS ?_ ?_; rotate_left; (focus (intro w hSw; (try dsimp only at hSw); (have f1 := J w hSw; have f9 := hA0); go_simp; first | done | with_reducible rfl)); simp only [Act.put, List.setIfInBounds_toArray, List.set_cons_zero, List.set_cons_succ])
    (refine mv_call 31 (f := ?_) (args := ?_) rfl (by kernel_rfl) (by rfl) ?_ ?_; rotate_left 2; (focus (go_simp; first | done | with_reducible rfl | (refine ⟨?_, ?_⟩ <;> with_reducible rfl))))
    refine (wakes9_any _).mono ?_; rintro e v14_5 ⟨rfl, hv14⟩
    have hT : Below w6.heap.size w6 v14_5 := hS.trans (hv14.mono hS.size)
    refine ⟨_, rfl, hT, ?_⟩
    replace hS := hT
    clear hT hv14
    simp only [Act.put, List.setIfInBounds_toArray, List.set_cons_zero, List.set_cons_succ]
    (refine mv_val 32 (v := ?_) rfl (by kernel_rfl) (by kernel_rfl) (by kernel_rfl) (fun _ _ _ h => h) (by rfl) hS ?_ ?_; rotate_left; (focus (intro w hSw; (try dsimp only at hSw); (have f1 := J w hSw; have f9 := hA0); go_simp; first | done | with_reducible rfl)); simp only [Act.put, List.setIfInBounds_toArray, List.set_cons_zero, List.set_cons_succ])
    (refine mv_val 33 (v := ?_) rfl (by kernel_rfl) (by kernel_rfl) (by kernel_rfl) (fun _ _ _ h => h) (by rfl) hS ?_ ?_; rotate_left; (focus (intro w hSw; (try dsimp only at hSw); (have f1 := J w hSw; have f9 := hA0); go_simp; first | done | with_reducible rfl)); simp only [Act.put, List.setIfInBounds_toArray, List.set_cons_zero, List.set_cons_succ])
    refine wpAnyH_done (by kernel_rfl) ?_ _
    go_wp2_with fail
    go_ret
    exact ⟨rfl, bel6.trans (hS.mono bel6.size)⟩
  have he := HE.out
  clear HE
  simp only [Bool.not_false, Bool.true_and] at P4
  by_cases hx : x = A
  case neg =>
    rw [decide_eq_false hx, Bool.false_and] at he
    subst he
    have K4 := Lib.hid P4
    clear P4
    refine ah_start 34 (fun w' => Below w6.heap.size w6 w') rfl (by kernel_rfl) (hS0).drew ?_
    intro hS
    (refine mv_val 0 (v := ?_) rfl (by kernel_rfl) (by kernel_rfl) (by kernel_rfl) (fun _ _ _ h => h) (by rfl) hS ?_ ?_; rotate_left; (focus (intro w hSw; (try dsimp only at hSw); (have f1 := J w hSw; have f9 := hA0; have f10 := hx); go_simp; first | done | with_reducible rfl)); simp only [Act.put, List.setIfInBounds_toArray, List.set_cons_zero, List.set_cons_succ])
    (refine mv_val 1 (v := ?_) rfl (by kernel_rfl) (by kernel_rfl) (by kernel_rfl) (fun _ _ _ h => h) (by rfl) hS ?_ ?_; rotate_left; (focus (intro w hSw; (try dsimp only at hSw); (have f1 := J w hSw; have f9 := hA0; have f10 := hx); go_simp; first | done | with_reducible rfl)); simp only [Act.put, List.setIfInBounds_toArray, List.set_cons_zero, List.set_cons_succ])
    (refine mv_val 3 (v := ?_) rfl (by kernel_rfl) (by kernel_rfl) (by kernel_rfl) (fun _ _ _ h => h) (by rfl) hS ?_ ?_; rotate_left; (focus (intro w hSw; (try dsimp only at hSw); (have f1 := J w hSw; have f9 := hA0; have f10 := hx); go_simp; first | done | with_reducible rfl)); simp only [Act.put, List.setIfInBounds_toArray, List.set_cons_zero, List.set_cons_succ])
    (refine mv_call 2 (f := ?_) (args := ?_) rfl (by kernel_rfl) (by rfl) ?_ ?_; rotate_left 2; (focus (go_simp; first | done | with_reducible rfl | (refine ⟨?_, ?_⟩ <;> with_reducible rfl))))
    refine (K4.out _).mono ?_; rintro e v14_0 ⟨rfl, hv14⟩
    have hT : Below w6.heap.size w6 v14_0 := hS.trans (hv14.mono hS.size)
    refine ⟨_, rfl, hT, ?_⟩
    replace hS := hT
    clear hT hv14
    simp only [Act.put, List.setIfInBounds_toArray, List.set_cons_zero, List.set_cons_succ]
    (refine mv_call 4 (f := ?_) (args := ?_) rfl (by kernel_rfl) (by rfl) ?_ ?_; rotate_left 2; (focus (go_simp; first | done | with_reducible rfl | (refine ⟨?_, ?_⟩ <;> with_reducible rfl))))
    refine (K2.out _).mono ?_; rintro e v14_1 ⟨rfl, hv14⟩
    have hT : Below w6.heap.size w6 v14_1 := hS.trans (hv14.mono hS.size)
    refine ⟨_, rfl, hT, ?_⟩
    replace hS := hT
    clear hT hv14
    simp only [Act.put, List.setIfInBounds_toArray, List.set_cons_zero, List.set_cons_succ]
    (refine mv_val 5 (v := ?_) rfl (by kernel_rfl) (by kernel_rfl) (by kernel_rfl) (fun _ _ _ h => h) (by rfl) hS ?_ ?_; rotate_left; (focus (intro w hSw; (try dsimp only at hSw); (have f1 := J w hSw; have f9 := hA0; have f10 := hx); go_simp; first | done | with_reducible rfl)); simp only [Act.put, List.setIfInBounds_toArray, List.set_cons_zero, List.set_cons_succ])
    (refine mv_val 6 (v := ?_) rfl (by kernel_rfl) (by kernel_rfl) (by kernel_rfl) (fun _ _ _ h => h) (by rfl) hS ?_ ?_; rotate_left; (focus (intro w hSw; (try dsimp only at hSw); (have f1 := J w hSw; have f9 := hA0; have f10 := hx); go_simp; first | done | with_reducible rfl)); simp only [Act.put, List.setIfInBounds_toArray, List.set_cons_zero, List.set_cons_succ])
    (refine mv_val 7 (v := ?_) rfl (by kernel_rfl) (by kernel_rfl) (by kernel_rfl) (fun _ _ _ h => h) (by rfl) hS ?_ ?_; rotate_left; (focus (intro w hSw; (try dsimp only at hSw); (have f1 := J w hSw; have f9 := hA0; have f10 := hx); go_simp; first | done | with_reducible rfl)); simp only [Act.put, List.setIfInBounds_toArray, List.set_cons_zero, List.set_cons_succ])
    (refine mv_val 8 (v := ?_) rfl (by kernel_rfl) (by kernel_rfl) (by kernel_rfl) (fun _ _ _ h => h) (by rfl) hS ?_ ?_; rotate_left; (focus (intro w hSw; (try dsimp only at hSw); (have f1 := J w hSw; have f9 := hA0; have f10 := hx); go_simp; first | done | with_reducible rfl)); simp only [Act.put, List.setIfInBounds_toArray, List.set_cons_zero, List.set_cons_succ])
    (refine mv_val 10 (v := ?_) rfl (by kernel_rfl) (by kernel_rfl) (by kernel_rfl) (fun _ _ _ h => h) (by rfl) hS ?_ ?_; rotate_left; (focus (intro w hSw; (try dsimp only at hSw); (have f1 := J w hSw; have f9 := hA0; have f10 := hx); go_simp; first | done | with_reducible rfl)); simp only [Act.put, List.setIfInBounds_toArray, List.set_cons_zero, List.set_cons_succ])
    (refine mv_call 9 (f := ?_) (args := ?_) rfl (by kernel_rfl) (by rfl) ?_ ?_; rotate_left 2; (focus (go_simp; first | done | with_reducible rfl | (refine ⟨?_, ?_⟩ <;> with_reducible rfl))))
    refine (K5.out _).mono ?_; rintro e v14_2 ⟨rfl, hv14⟩
    have hT : Below w6.heap.size w6 v14_2 := hS.trans (hv14.mono hS.size)
    refine ⟨_, rfl, hT, ?_⟩
    replace hS := hT
    clear hT hv14
    simp only [Act.put, List.setIfInBounds_toArray, List.set_cons_zero, List.set_cons_succ]
    (refine mv_val 11 (v := ?_) rfl (by kernel_rfl) (by kernel_rfl) (by kernel_rfl) (fun _ _ _ h => h) (by rfl) hS ?_ ?_; rotate_left; (focus (intro w hSw; (try dsimp only at hSw); (have f1 := J w hSw; have f9 := hA0; have f10 := hx); go_simp; first | done | with_reducible rfl)); simp only [Act.put, List.setIfInBounds_toArray, List.set_cons_zero, List.set_cons_succ])
    (refine mv_val 12 (v := ?_) rfl (by kernel_rfl) (by kernel_rfl) (by kernel_rfl) (fun _ _ _ h => h) (by rfl) hS ?_ ?_; rotate_left; (focus (intro w hSw; (try dsimp only at hSw); (have f1 := J w hSw; have f9 := hA0; have f10 := hx); go_simp; first | done | with_reducible rfl)); simp only [Act.put, List.setIfInBounds_toArray, List.set_cons_zero, List.set_cons_succ])
    (refine mv_val 13 (v := ?_) rfl (by kernel_rfl) (by kernel_rfl) (by kernel_rfl) (fun _ _ _ h => h) (by rfl) hS ?_ ?_; rotate_left; (focus (intro w hSw; (try dsimp only at hSw); (have f1 := J w hSw; have f9 := hA0; have f10 := hx); go_simp; first | done | with_reducible rfl)); simp only [Act.put, List.setIfInBounds_toArray, List.set_cons_zero, List.set_cons_succ])
    (refine mv_val 14 (v := ?_) rfl (by kernel_rfl) (by kernel_rfl) (by kernel_rfl) (fun _ _ _ h => h) (by rfl) hS ?_ ?_; rotate_left; (focus (intro w hSw; (try dsimp only at hSw); (have f1 := J w hSw; have f9 := hA0; have f10 := hx); go_simp; first | done | with_reducible rfl)); simp only [Act.put, List.setIfInBounds_toArray, List.set_cons_zero, List.set_cons_succ])
    (refine mv_val 15 (v := ?_) rfl (by kernel_rfl) (by kernel_rfl) (by kernel_rfl) (fun _ _ _ h => h) (by rfl) hS ?_ ?_; rotate_left; (focus (intro w hSw; (try dsimp only at hSw); (have f1 := J w hSw; have f9 := hA0; have f10 := hx); go_simp; first | done | with_reducible rfl)); simp only [Act.put, List.setIfInBounds_toArray, List.set_cons_zero, List.set_cons_succ])
    (refine mv_val 16 (v := ?_) rfl (by kernel_rfl) (by kernel_rfl) (by kernel_rfl) (fun _ _ _ h => h) (by rfl) hS ?_ ?_; rotate_left; (focus (intro w hSw; (try dsimp only at hSw); (have f1 := J w hSw; have f9 := hA0; have f10 := hx); go_simp; first | done | with_reducible rfl)); simp only [Act.put, List.setIfInBounds_toArray, List.set_cons_zero, List.set_cons_succ])
    (refine mv_val 18 (v := ?_) rfl (by kernel_rfl) (by kernel_rfl) (by kernel_rfl) (fun _ _ _ h => h) (by rfl) hS ?_ ?_; rotate_left; (focus (intro w hSw; (try dsimp only at hSw); (have f1 := J w hSw; have f9 := hA0; have f10 := hx); go_simp; first | done | with_reducible rfl)); simp only [Act.put, List.setIfInBounds_toArray, List.set_cons_zero, List.set_cons_succ])
    (refine mv_call 17 (f := ?_) (args := ?_) rfl (by kernel_rfl) (by rfl) ?_ ?_; rotate_left 2; (focus (go_simp; first | done | with_reducible rfl | (refine ⟨?_, ?_⟩ <;> with_reducible rfl))))
    refine (P6.out _).mono ?_; rintro e v14_3 ⟨rfl, hv14⟩
    have hT : Below w6.heap.size w6 v14_3 := hS.trans (hv14.mono hS.size)
    refine ⟨_, rfl, hT, ?_⟩
    replace hS := hT
    clear hT hv14
    simp only [Act.put, List.setIfInBounds_toArray, List.set_cons_zero, List.set_cons_succ]
    (refine mv_val 19 (v := ?_) rfl (by kernel_rfl) (by kernel_rfl) (by kernel_rfl) (fun _ _ _ h => h) (by rfl) hS ?_ ?_; rotate_left; (focus (intro w hSw; (try dsimp only at hSw); (have f1 := J w hSw; have f9 := hA0; have f10 := hx); go_simp; first | done | with_reducible rfl)); simp only [Act.put, List.setIfInBounds_toArray, List.set_cons_zero, List.set_cons_succ])
    (refine mv_val 20 (v := ?_) rfl (by kernel_rfl) (by kernel_rfl) (by kernel_rfl) (fun _ _ _ h => h) (by rfl) hS ?_ ?_; rotate_left; (focus (intro w hSw; (try dsimp only at hSw); (have f1 := J w hSw; have f9 := hA0; have f10 := hx); go_simp; first | done | with_reducible rfl)); simp only [Act.put, List.setIfInBounds_toArray, List.set_cons_zero, List.set_cons_succ])
    (refine mv_val 21 (v := ?_) rfl (by kernel_rfl) (by kernel_rfl) (by kernel_rfl) (fun _ _ _ h => h) (by rfl) hS ?_ ?_; rotate_left; (focus (intro w hSw; (try dsimp only at hSw); (have f1 := J w hSw; have f9 := hA0; have f10 := hx); go_simp; first | done | with_reducible rfl)); simp only [Act.put, List.setIfInBounds_toArray, List.set_cons_zero, List.set_cons_succ])
    (refine mv_val 22 (v := ?_) rfl (by kernel_rfl) (by kernel_rfl) (by kernel_rfl) (fun _ _ _ h => h) (by rfl) hS ?_ ?_; rotate_left; (focus (intro w hSw; (try dsimp only at hSw); (have f1 := J w hSw; have f9 := hA0; have f10 := hx); go_simp; first | done | with_reducible rfl)); simp only [Act.put, List.setIfInBounds_toArray, List.set_cons_zero, List.set_cons_succ])
    (refine mv_val 23 (v := ?_) rfl (by kernel_rfl) (by kernel_rfl) (by kernel_rfl) (fun _ _ _ h => h) (by rfl) hS ?_ ?_; rotate_left; (focus (intro w hSw; (try dsimp only at hSw); (have f1 := J w hSw; have f9 := hA0; have f10 := hx); go_simp; first | done | with_reducible rfl)); simp only [Act.put, List.setIfInBounds_toArray, List.set_cons_zero, List.set_cons_succ])
    (refine mv_val 25 (v := ?_) rfl (by kernel_rfl) (by kernel_rfl) (by kernel_rfl) (fun _ _ _ h => h) (by rfl) hS ?_ ?_; rotate_left; (focus (intro w hSw; (try dsimp only at hSw); (have f1 := J w hSw; have f9 := hA0; have f10 := hx); go_simp; first | done | with_reducible rfl)); simp only [Act.put, List.setIfInBounds_toArray, List.set_cons_zero, List.set_cons_succ])
    (refine mv_val 26 (v := ?_) rfl (by kernel_rfl) (by kernel_rfl) (by kernel_rfl) (fun _ _ _ h => h) (by rfl) hS ?_ ?_; rotate_left; (focus (intro w hSw; (try dsimp only at hSw); (have f1 := J w hSw; have f9 := hA0; have f10 := hx); go_simp; first | done | with_reducible rfl)); simp only [Act.put, List.setIfInBounds_toArray, List.set_cons_zero, List.set_cons_succ])
    (refine mv_call 24 (f := ?_) (args := ?_) rfl (by kernel_rfl) (by rfl) ?_ ?_; rotate_left 2; (focus (go_simp; first | done | with_reducible rfl | (refine ⟨?_, ?_⟩ <;> with_reducible rfl))))
    refine (K7.out _).mono ?_; rintro e v14_4 ⟨rfl, hv14⟩
    have hT : Below w6.heap.size w6 v14_4 := hS.trans (hv14.mono hS.size)
    refine ⟨_, rfl, hT, ?_⟩
    replace hS := hT
    clear hT hv14
    simp only [Act.put, List.setIfInBounds_toArray, List.set_cons_zero, List.set_cons_succ]
    (refine mv_call 27 (f := ?_) (args := ?_) rfl (by kernel_rfl) (by rfl) ?_ ?_; rotate_left 2; (focus (go_simp; first | done | with_reducible rfl | (refine ⟨?_, ?_⟩ <;> with_reducible rfl))))
    refine (K8.out _).mono ?_; rintro e v14_5 ⟨rfl, hv14⟩
    have hT : Below w6.heap.size w6 v14_5 := hS.trans (hv14.mono hS.size)
    refine ⟨_, rfl, hT, ?_⟩
    replace hS := hT
    clear hT hv14
    simp only [Act.put, List.setIfInBounds_toArray, List.set_cons_zero, List.set_cons_succ]
    (refine mv_val 28 (v := ?_) rfl (by kernel_rfl) (by kernel_rfl) (by kernel_rfl) (fun _ _ _ h => h) (by rfl) hS ?_ ?_; rotate_left; (focus (intro w hSw; (try dsimp only at hSw); (have f1 := J w hSw; have f9 := hA0; have f10 := hx); go_simp; first | done | with_reducible rfl)); simp only [Act.put, List.setIfInBounds_toArray, List.set_cons_zero, List.set_cons_succ])
    (refine mv_val 29 (v := ?_) rfl (by kernel_rfl) (by kernel_rfl) (by kernel_rfl) (fun _ _ _ h => h) (by rfl) hS ?_ ?_; rotate_left; (focus (intro w hSw; (try dsimp only at hSw); (have f1 := J w hSw; have f9 := hA0; have f10 := hx); go_simp; first | done | with_reducible rfl)); simp only [Act.put, List.setIfInBounds_toArray, List.set_cons_zero, List.set_cons_succ])
    (refine mv_val 30 (v := ?_) rfl (by kernel_rfl) (by kernel_rfl) (by kernel_rfl) (fun _ _ _ h => h) (by rfl) hS ?_ ?_; rotate_left; (focus (intro w hSw; (try dsimp only at hSw); (have f1 := J w hSw; have f9 := hA0; have f10 := hx); go_simp; first | done | with_reducible rfl)); simp only [Act.put, List.setIfInBounds_toArray, List.set_cons_zero, List.set_cons_succ])
    (refine mv_call 31 (f := ?_) (args := ?_) rfl (by kernel_rfl) (by rfl) ?_ ?_; rotate_left 2; (focus (go_simp; first | done | with_reducible rfl | (refine ⟨?_, ?_⟩ <;> with_reducible rfl))))
    refine (wakes9_any _).mono ?_; rintro e v14_6 ⟨rfl, hv14⟩
    have hT : Below w6.heap.size w6 v14_6 := hS.trans (hv14.mono hS.size)
    refine ⟨_, rfl, hT, ?_⟩
    replace hS := hT
    clear hT hv14
    simp only [Act.put, List.setIfInBounds_toArray, List.set_cons_zero, List.set_cons_succ]
    (refine mv_val 32 (v := ?_) rfl (by kernel_rfl) (by kernel_rfl) (by kernel_rfl) (fun _ _ _ h => h) (by rfl) hS ?_ ?_; rotate_left; (focus (intro w hSw; (try dsimp only at hSw); (have f1 := J w hSw; have f9 := hA0; have f10 := hx); go_simp; first | done | with_reducible rfl)); simp only [Act.put, List.setIfInBounds_toArray, List.set_cons_zero, List.set_cons_succ])
    (refine mv_val 33 (v := ?_) rfl (by kernel_rfl) (by kernel_rfl) (by kernel_rfl) (fun _ _ _ h => h) (by rfl) hS ?_ ?_; rotate_left; (focus (intro w hSw; (try dsimp only at hSw); (have f1 := J w hSw; have f9 := hA0; have f10 := hx); go_simp; first | done | with_reducible rfl)); simp only [Act.put, List.setIfInBounds_toArray, List.set_cons_zero, List.set_cons_succ])
    refine wpAnyH_done (by kernel_rfl) ?_ _
    go_wp2_with fail
    go_ret
    exact ⟨rfl, bel6.trans (hS.mono bel6.size)⟩
  subst hx
  by_cases hy : y = x + n
  case neg =>
    rw [decide_eq_false hy, Bool.and_false] at he
    subst he
    have K4 := Lib.hid P4
    clear P4
    refine ah_start 34 (fun w' => Below w6.heap.size w6 w') rfl (by kernel_rfl) (hS0).drew ?_
    intro hS
    (refine mv_val 0 (v := ?_) rfl (by kernel_rfl) (by kernel_rfl) (by kernel_rfl) (fun _ _ _ h => h) (by rfl) hS ?_ ?_; rotate_left; (focus (intro w hSw; (try dsimp only at hSw); (have f1 := J w hSw; have f9 := hA0; have f10 := hy); go_simp; first | done | with_reducible rfl)); simp only [Act.put, List.setIfInBounds_toArray, List.set_cons_zero, List.set_cons_succ])
    (refine mv_val 1 (v := ?_) rfl (by kernel_rfl) (by kernel_rfl) (by kernel_rfl) (fun _ _ _ h => h) (by rfl) hS ?_ ?_; rotate_left; (focus (intro w hSw; (try dsimp only at hSw); (have f1 := J w hSw; have f9 := hA0; have f10 := hy); go_simp; first | done | with_reducible rfl)); simp only [Act.put, List.setIfInBounds_toArray, List.set_cons_zero, List.set_cons_succ])
    (refine mv_val 3 (v := ?_) rfl (by kernel_rfl) (by kernel_rfl) (by kernel_rfl) (fun _ _ _ h => h) (by rfl) hS ?_ ?_; rotate_left; (focus (intro w hSw; (try dsimp only at hSw); (have f1 := J w hSw; have f9 := hA0; have f10 := hy); go_simp; first | done | with_reducible rfl)); simp only [Act.put, List.setIfInBounds_toArray, List.set_cons_zero, List.set_cons_succ])
    (refine mv_call 2 (f := ?_) (args := ?_) rfl (by kernel_rfl) (by rfl) ?_ ?_; rotate_left 2; (focus (go_simp; first | done | with_reducible rfl | (refine ⟨?_, ?_⟩ <;> with_reducible rfl))))
    refine (K4.out _).mono ?_; rintro e v14_0 ⟨rfl, hv14⟩
    have hT : Below w6.heap.size w6 v14_0 := hS.trans (hv14.mono hS.size)
    refine ⟨_, rfl, hT, ?_⟩
    replace hS := hT
    clear hT hv14
    simp only [Act.put, List.setIfInBounds_toArray, List.set_cons_zero, List.set_cons_succ]
    (refine mv_call 4 (f := ?_) (args := ?_) rfl (by kernel_rfl) (by rfl) ?_ ?_; rotate_left 2; (focus (go_simp; first | done | with_reducible rfl | (refine ⟨?_, ?_⟩ <;> with_reducible rfl))))
    refine (K2.out _).mono ?_; rintro e v14_1 ⟨rfl, hv14⟩
    have hT : Below w6.heap.size w6 v14_1 := hS.trans (hv14.mono hS.size)
    refine ⟨_, rfl, hT, ?_⟩
    replace hS := hT
    clear hT hv14
    simp only [Act.put, List.setIfInBounds_toArray, List.set_cons_zero, List.set_cons_succ]
    (refine mv_val 5 (v := ?_) rfl (by kernel_rfl) (by kernel_rfl) (by kernel_rfl) (fun _ _ _ h => h) (by rfl) hS ?_ ?_; rotate_left; (focus (intro w hSw; (try dsimp only at hSw); (have f1 := J w hSw; have f9 := hA0; have f10 := hy); go_simp; first | done | with_reducible rfl)); simp only [Act.put, List.setIfInBounds_toArray, List.set_cons_zero, List.set_cons_succ])
    (refine mv_val 6 (v := ?_) rfl (by kernel_rfl) (by kernel_rfl) (by kernel_rfl) (fun _ _ _ h => h) (by rfl) hS ?_ ?_; rotate_left; (focus (intro w hSw; (try dsimp only at hSw); (have f1 := J w hSw; have f9 := hA0; have f10 := hy); go_simp; first | done | with_reducible rfl)); simp only [Act.put, List.setIfInBounds_toArray, List.set_cons_zero, List.set_cons_succ])
    (refine mv_val 7 (v := ?_) rfl (by kernel_rfl) (by kernel_rfl) (by kernel_rfl) (fun _ _ _ h => h) (by rfl) hS ?_ ?_; rotate_left; (focus (intro w hSw; (try dsimp only at hSw); (have f1 := J w hSw; have f9 := hA0; have f10 := hy); go_simp; first | done | with_reducible rfl)); simp only [Act.put, List.setIfInBounds_toArray, List.set_cons_zero, List.set_cons_succ])
    (refine mv_val 8 (v := ?_) rfl (by kernel_rfl) (by kernel_rfl) (by kernel_rfl) (fun _ _ _ h => h) (by rfl) hS ?_ ?_; rotate_left; (focus (intro w hSw; (try dsimp only at hSw); (have f1 := J w hSw; have f9 := hA0; have f10 := hy); go_simp; first | done | with_reducible rfl)); simp only [Act.put, List.setIfInBounds_toArray, List.set_cons_zero, List.set_cons_succ])
    (refine mv_val 10 (v := ?_) rfl (by kernel_rfl) (by kernel_rfl) (by kernel_rfl) (fun _ _ _ h => h) (by rfl) hS ?_ ?_; rotate_left; (focus (intro w hSw; (try dsimp only at hSw); (have f1 := J w hSw; have f9 := hA0; have f10 := hy); go_simp; first | done | with_reducible rfl)); simp only [Act.put, List.setIfInBounds_toArray, List.set_cons_zero, List.set_cons_succ])
    (refine mv_call 9 (f := ?_) (args := ?_) rfl (by kernel_rfl) (by rfl) ?_ ?_; rotate_left 2; (focus (go_simp; first | done | with_reducible rfl | (refine ⟨?_, ?_⟩ <;> with_reducible rfl))))
    refine (K5.out _).mono ?_; rintro e v14_2 ⟨rfl, hv14⟩
    have hT : Below w6.heap.size w6 v14_2 := hS.trans (hv14.mono hS.size)
    refine ⟨_, rfl, hT, ?_⟩
    replace hS := hT
    clear hT hv14
    simp only [Act.put, List.setIfInBounds_toArray, List.set_cons_zero, List.set_cons_succ]
    (refine mv_val 11 (v := ?_) rfl (by kernel_rfl) (by kernel_rfl) (by kernel_rfl) (fun _ _ _ h => h) (by rfl) hS ?_ ?_; rotate_left; (focus (intro w hSw; (try dsimp only at hSw); (have f1 := J w hSw; have f9 := hA0; have f10 := hy); go_simp; first | done | with_reducible rfl)); simp only [Act.put, List.setIfInBounds_toArray, List.set_cons_zero, List.set_cons_succ])
    (refine mv_val 12 (v := ?_) rfl (by kernel_rfl) (by kernel_rfl) (by kernel_rfl) (fun _ _ _ h => h) (by rfl) hS ?_ ?_; rotate_left; (focus (intro w hSw; (try dsimp only at hSw); (have f1 := J w hSw; have f9 := hA0; have f10 := hy); go_simp; first | done | with_reducible rfl)); simp only [Act.put, List.setIfInBounds_toArray, List.set_cons_zero, List.set_cons_succ])
    (refine mv_val 13 (v := ?_) rfl (by kernel_rfl) (by kernel_rfl) (by kernel_rfl) (fun _ _ _ h => h) (by rfl) hS ?_ ?_; rotate_left; (focus (intro w hSw; (try dsimp only at hSw); (have f1 := J w hSw; have f9 := hA0; have f10 := hy); go_simp; first | done | with_reducible rfl)); simp only [Act.put, List.setIfInBounds_toArray, List.set_cons_zero, List.set_cons_succ])
    (refine mv_val 14 (v := ?_) rfl (by kernel_rfl) (by kernel_rfl) (by kernel_rfl) (fun _ _ _ h => h) (by rfl) hS ?_ ?_; rotate_left; (focus (intro w hSw; (try dsimp only at hSw); (have f1 := J w hSw; have f9 := hA0; have f10 := hy); go_simp; first | done | with_reducible rfl)); simp only [Act.put, List.setIfInBounds_toArray, List.set_cons_zero, List.set_cons_succ])
    (refine mv_val 15 (v := ?_) rfl (by kernel_rfl) (by kernel_rfl) (by kernel_rfl) (fun _ _ _ h => h) (by rfl) hS ?_ ?_; rotate_left; (focus (intro w hSw; (try dsimp only at hSw); (have f1 := J w hSw; have f9 := hA0; have f10 := hy); go_simp; first | done | with_reducible rfl)); simp only [Act.put, List.setIfInBounds_toArray, List.set_cons_zero, List.set_cons_succ])
    (refine mv_val 16 (v := ?_) rfl (by kernel_rfl) (by kernel_rfl) (by kernel_rfl) (fun _ _ _ h => h) (by rfl) hS ?_ ?_; rotate_left; (focus (intro w hSw; (try dsimp only at hSw); (have f1 := J w hSw; have f9 := hA0; have f10 := hy); go_simp; first | done | with_reducible rfl)); simp only [Act.put, List.setIfInBounds_toArray, List.set_cons_zero, List.set_cons_succ])
    (refine mv_val 18 (v := ?_) rfl (by kernel_rfl) (by kernel_rfl) (by kernel_rfl) (fun _ _ _ h => h) (by rfl) hS ?_ ?_; rotate_left; (focus (intro w hSw; (try dsimp only at hSw); (have f1 := J w hSw; have f9 := hA0; have f10 := hy); go_simp; first | done | with_reducible rfl)); simp only [Act.put, List.setIfInBounds_toArray, List.set_cons_zero, List.set_cons_succ])
    (refine mv_call 17 (f := ?_) (args := ?_) rfl (by kernel_rfl) (by rfl) ?_ ?_; rotate_left 2; (focus (go_simp; first | done | with_reducible rfl | (refine ⟨?_, ?_⟩ <;> with_reducible rfl))))
    refine (P6.out _).mono ?_; rintro e v14_3 ⟨rfl, hv14⟩
    have hT : Below w6.heap.size w6 v14_3 := hS.trans (hv14.mono hS.size)
    refine ⟨_, rfl, hT, ?_⟩
    replace hS := hT
    clear hT hv14
    simp only [Act.put, List.setIfInBounds_toArray, List.set_cons_zero, List.set_cons_succ]
    (refine mv_val 19 (v := ?_) rfl (by kernel_rfl) (by kernel_rfl) (by kernel_rfl) (fun _ _ _ h => h) (by rfl) hS ?_ ?_; rotate_left; (focus (intro w hSw; (try dsimp only at hSw); (have f1 := J w hSw; have f9 := hA0; have f10 := hy); go_simp; first | done | with_reducible rfl)); simp only [Act.put, List.setIfInBounds_toArray, List.set_cons_zero, List.set_cons_succ])
    (refine mv_val 20 (v := ?_) rfl (by kernel_rfl) (by kernel_rfl) (by kernel_rfl) (fun _ _ _ h => h) (by rfl) hS ?_ ?_; rotate_left; (focus (intro w hSw; (try dsimp only at hSw); (have f1 := J w hSw; have f9 := hA0; have f10 := hy); go_simp; first | done | with_reducible rfl)); simp only [Act.put, List.setIfInBounds_toArray, List.set_cons_zero, List.set_cons_succ])
    (refine mv_val 21 (v := ?_) rfl (by kernel_rfl) (by kernel_rfl) (by kernel_rfl) (fun _ _ _ h => h) (by rfl) hS ?_ ?_; rotate_left; (focus (intro w hSw; (try dsimp only at hSw); (have f1 := J w hSw; have f9 := hA0; have f10 := hy); go_simp; first | done | with_reducible rfl)); simp only [Act.put, List.setIfInBounds_toArray, List.set_cons_zero, List.set_cons_succ])
    (refine mv_val 22 (v := ?_) rfl (by kernel_rfl) (by kernel_rfl) (by kernel_rfl) (fun _ _ _ h => h) (by rfl) hS ?_ ?_; rotate_left; (focus (intro w hSw; (try dsimp only at hSw); (have f1 := J w hSw; have f9 := hA0; have f10 := hy); go_simp; first | done | with_reducible rfl)); simp only [Act.put, List.setIfInBounds_toArray, List.set_cons_zero, List.set_cons_succ])
    (refine mv_val 23 (v := ?_) rfl (by kernel_rfl) (by kernel_rfl) (by kernel_rfl) (fun _ _ _ h => h) (by rfl) hS ?_ ?_; rotate_left; (focus (intro w hSw; (try dsimp only at hSw); (have f1 := J w hSw; have f9 := hA0; have f10 := hy); go_simp; first | done | with_reducible rfl)); simp only [Act.put, List.setIfInBounds_toArray, List.set_cons_zero, List.set_cons_succ])
    (refine mv_val 25 (v := ?_) rfl (by kernel_rfl) (by kernel_rfl) (by kernel_rfl) (fun _ _ _ h => h) (by rfl) hS ?_ ?_; rotate_left; (focus (intro w hSw; (try dsimp only at hSw); (have f1 := J w hSw; have f9 := hA0; have f10 := hy); go_simp; first | done | with_reducible rfl)); simp only [Act.put, List.setIfInBounds_toArray, List.set_cons_zero, List.set_cons_succ])
    (refine mv_val 26 (v := ?_) rfl (by kernel_rfl) (by kernel_rfl) (by kernel_rfl) (fun _ _ _ h => h) (by rfl) hS ?_ ?_; rotate_left; (focus (intro w hSw; (try dsimp only at hSw); (have f1 := J w hSw; have f9 := hA0; have f10 := hy); go_simp; first | done | with_reducible rfl)); simp only [Act.put, List.setIfInBounds_toArray, List.set_cons_zero, List.set_cons_succ])
    (refine mv_call 24 (f := ?_) (args := ?_) rfl (by kernel_rfl) (by rfl) ?_ ?_; rotate_left 2; (focus (go_simp; first | done | with_reducible rfl | (refine ⟨?_, ?_⟩ <;> with_reducible rfl))))
    refine (K7.out _).mono ?_; rintro e v14_4 ⟨rfl, hv14⟩
    have hT : Below w6.heap.size w6 v14_4 := hS.trans (hv14.mono hS.size)
    refine ⟨_, rfl, hT, ?_⟩
    replace hS := hT
    clear hT hv14
    simp only [Act.put, List.setIfInBounds_toArray, List.set_cons_zero, List.set_cons_succ]
    (refine mv_call 27 (f := ?_) (args := ?_) rfl (by kernel_rfl) (by rfl) ?_ ?_; rotate_left 2; (focus (go_simp; first | done | with_reducible rfl | (refine ⟨?_, ?_⟩ <;> with_reducible rfl))))
    refine (K8.out _).mono ?_; rintro e v14_5 ⟨rfl, hv14⟩
    have hT : Below w6.heap.size w6 v14_5 := hS.trans (hv14.mono hS.size)
    refine ⟨_, rfl, hT, ?_⟩
    replace hS := hT
    clear hT hv14
    simp only [Act.put, List.setIfInBounds_toArray, List.set_cons_zero, List.set_cons_succ]
    (refine mv_val 28 (v := ?_) rfl (by kernel_rfl) (by kernel_rfl) (by kernel_rfl) (fun _ _ _ h => h) (by rfl) hS ?_ ?_; rotate_left; (focus (intro w hSw; (try dsimp only at hSw); (have f1 := J w hSw; have f9 := hA0; have f10 := hy); go_simp; first | done | with_reducible rfl)); simp only [Act.put, List.setIfInBounds_toArray, List.set_cons_zero, List.set_cons_succ])
    (refine mv_val 29 (v := ?_) rfl (by kernel_rfl) (by kernel_rfl) (by kernel_rfl) (fun _ _ _ h => h) (by rfl) hS ?_ ?_; rotate_left; (focus (intro w hSw; (try dsimp only at hSw); (have f1 := J w hSw; have f9 := hA0; have f10 := hy); go_simp; first | done | with_reducible rfl)); simp only [Act.put, List.setIfInBounds_toArray, List.set_cons_zero, List.set_cons_succ])
    (refine mv_val 30 (v := ?_) rfl (by kernel_rfl) (by kernel_rfl) (by kernel_rfl) (fun _ _ _ h => h) (by rfl) hS ?_ ?_; rotate_left; (focus (intro w hSw; (try dsimp only at hSw); (have f1 := J w hSw; have f9 := hA0; have f10 := hy); go_simp; first | done | with_reducible rfl)); simp only [Act.put, List.setIfInBounds_toArray, List.set_cons_zero, List.set_cons_succ])
    (refine mv_call 31 (f := ?_) (args := ?_) rfl (by kernel_rfl) (by rfl) ?_ ?_; rotate_left 2; (focus (go_simp; first | done | with_reducible rfl | (refine ⟨?_, ?_⟩ <;> with_reducible rfl))))
    refine (wakes9_any _).mono ?_; rintro e v14_6 ⟨rfl, hv14⟩
    have hT : Below w6.heap.size w6 v14_6 := hS.trans (hv14.mono hS.size)
    refine ⟨_, rfl, hT, ?_⟩
    replace hS := hT
    clear hT hv14
    simp only [Act.put, List.setIfInBounds_toArray, List.set_cons_zero, List.set_cons_succ]
    (refine mv_val 32 (v := ?_) rfl (by kernel_rfl) (by kernel_rfl) (by kernel_rfl) (fun _ _ _ h => h) (by rfl) hS ?_ ?_; rotate_left; (focus (intro w hSw; (try dsimp only at hSw); (have f1 := J w hSw; have f9 := hA0; have f10 := hy); go_simp; first | done | with_reducible rfl)); simp only [Act.put, List.setIfInBounds_toArray, List.set_cons_zero, List.set_cons_succ])
    (refine mv_val 33 (v := ?_) rfl (by kernel_rfl) (by kernel_rfl) (by kernel_rfl) (fun _ _ _ h => h) (by rfl) hS ?_ ?_; rotate_left; (focus (intro w hSw; (try dsimp only at hSw); (have f1 := J w hSw; have f9 := hA0; have f10 := hy); go_simp; first | done | with_reducible rfl)); simp only [Act.put, List.setIfInBounds_toArray, List.set_cons_zero, List.set_cons_succ])
    refine wpAnyH_done (by kernel_rfl) ?_ _
    go_wp2_with fail
    go_ret
    exact ⟨rfl, bel6.trans (hS.mono bel6.size)⟩
  case pos =>
    subst hy
    rw [decide_eq_true rfl, decide_eq_true rfl, Bool.and_true] at he
    subst he
    have K4 := Lib.hid P4
    clear P4
    refine ah_start 34 (fun w' => Below w6.heap.size w6 w') rfl (by kernel_rfl) (hS0).drew ?_
    intro hS
    (refine mv_val 0 (v := ?_) rfl (by kernel_rfl) (by kernel_rfl) (by kernel_rfl) (fun _ _ _ h => h) (by rfl) hS ?_ ?_; rotate_left; (focus (intro w hSw; (try dsimp only at hSw); (have f1 := J w hSw; have f9 := hA0); go_simp; first | done | with_reducible rfl)); simp only [Act.put, List.setIfInBounds_toArray, List.set_cons_zero, List.set_cons_succ])
    (refine mv_val 1 (v := ?_) rfl (by kernel_rfl) (by kernel_rfl) (by kernel_rfl) (fun _ _ _ h => h) (by rfl) hS ?_ ?_; rotate_left; (focus (intro w hSw; (try dsimp only at hSw); (have f1 := J w hSw; have f9 := hA0); go_simp; first | done | with_reducible rfl)); simp only [Act.put, List.setIfInBounds_toArray, List.set_cons_zero, List.set_cons_succ])
    (refine mv_val 3 (v := ?_) rfl (by kernel_rfl) (by kernel_rfl) (by kernel_rfl) (fun _ _ _ h => h) (by rfl) hS ?_ ?_; rotate_left; (focus (intro w hSw; (try dsimp only at hSw); (have f1 := J w hSw; have f9 := hA0); go_simp; first | done | with_reducible rfl)); simp only [Act.put, List.setIfInBounds_toArray, List.set_cons_zero, List.set_cons_succ])
    (refine mv_call 2 (f := ?_) (args := ?_) rfl (by kernel_rfl) (by rfl) ?_ ?_; rotate_left 2; (focus (go_simp; first | done | with_reducible rfl | (refine ⟨?_, ?_⟩ <;> with_reducible rfl))))
    refine (K4.out _).mono ?_; rintro e v14_0 ⟨rfl, hv14⟩
    have hT : Below w6.heap.size w6 v14_0 := hS.trans (hv14.mono hS.size)
    refine ⟨_, rfl, hT, ?_⟩
    replace hS := hT
    clear hT hv14
    simp only [Act.put, List.setIfInBounds_toArray, List.set_cons_zero, List.set_cons_succ]
    (refine mv_call 4 (f := ?_) (args := ?_) rfl (by kernel_rfl) (by rfl) ?_ ?_; rotate_left 2; (focus (go_simp; first | done | with_reducible rfl | (refine ⟨?_, ?_⟩ <;> with_reducible rfl))))
    refine (K2.out _).mono ?_; rintro e v14_1 ⟨rfl, hv14⟩
    have hT : Below w6.heap.size w6 v14_1 := hS.trans (hv14.mono hS.size)
    refine ⟨_, rfl, hT, ?_⟩
    replace hS := hT
    clear hT hv14
    simp only [Act.put, List.setIfInBounds_toArray, List.set_cons_zero, List.set_cons_succ]
    (refine mv_val 5 (v := ?_) rfl (by kernel_rfl) (by kernel_rfl) (by kernel_rfl) (fun _ _ _ h => h) (by rfl) hS ?_ ?_; rotate_left; (focus (intro w hSw; (try dsimp only at hSw); (have f1 := J w hSw; have f9 := hA0); go_simp; first | done | with_reducible rfl)); simp only [Act.put, List.setIfInBounds_toArray, List.set_cons_zero, List.set_cons_succ])
    (refine mv_val 6 (v := ?_) rfl (by kernel_rfl) (by kernel_rfl) (by kernel_rfl) (fun _ _ _ h => h) (by rfl) hS ?_ ?_; rotate_left; (focus (intro w hSw; (try dsimp only at hSw); (have f1 := J w hSw; have f9 := hA0); go_simp; first | done | with_reducible rfl)); simp only [Act.put, List.setIfInBounds_toArray, List.set_cons_zero, List.set_cons_succ])
    (refine mv_val 7 (v := ?_) rfl (by kernel_rfl) (by kernel_rfl) (by kernel_rfl) (fun _ _ _ h => h) (by rfl) hS ?_ ?_; rotate_left; (focus (intro w hSw; (try dsimp only at hSw); (have f1 := J w hSw; have f9 := hA0); go_simp; first | done | with_reducible rfl)); simp only [Act.put, List.setIfInBounds_toArray, List.set_cons_zero, List.set_cons_succ])
    (refine mv_val 8 (v := ?_) rfl (by kernel_rfl) (by kernel_rfl) (by kernel_rfl) (fun _ _ _ h => h) (by rfl) hS ?_ ?_; rotate_left; (focus (intro w hSw; (try dsimp only at hSw); (have f1 := J w hSw; have f9 := hA0); go_simp; first | done | with_reducible rfl)); simp only [Act.put, List.setIfInBounds_toArray, List.set_cons_zero, List.set_cons_succ])
    (refine mv_val 10 (v := ?_) rfl (by kernel_rfl) (by kernel_rfl) (by kernel_rfl) (fun _ _ _ h => h) (by rfl) hS ?_ ?_; rotate_left; (focus (intro w hSw; (try dsimp only at hSw); (have f1 := J w hSw; have f9 := hA0); go_simp; first | done | with_reducible rfl)); simp only [Act.put, List.setIfInBounds_toArray, List.set_cons_zero, List.set_cons_succ])
    (refine mv_call 9 (f := ?_) (args := ?_) rfl (by kernel_rfl) (by rfl) ?_ ?_; rotate_left 2; (focus (go_simp; first | done | with_reducible rfl | (refine ⟨?_, ?_⟩ <;> with_reducible rfl))))
    refine (K5.out _).mono ?_; rintro e v14_2 ⟨rfl, hv14⟩
    have hT : Below w6.heap.size w6 v14_2 := hS.trans (hv14.mono hS.size)
    refine ⟨_, rfl, hT, ?_⟩
    replace hS := hT
    clear hT hv14
    simp only [Act.put, List.setIfInBounds_toArray, List.set_cons_zero, List.set_cons_succ]
    (refine mv_val 11 (v := ?_) rfl (by kernel_rfl) (by kernel_rfl) (by kernel_rfl) (fun _ _ _ h => h) (by rfl) hS ?_ ?_; rotate_left; (focus (intro w hSw; (try dsimp only at hSw); (have f1 := J w hSw; have f9 := hA0); go_simp; first | done | with_reducible rfl)); simp only [Act.put, List.setIfInBounds_toArray, List.set_cons_zero, List.set_cons_succ])
    (refine mv_val 12 (v := ?_) rfl (by kernel_rfl) (by kernel_rfl) (by kernel_rfl) (fun _ _ _ h => h) (by rfl) hS ?_ ?_; rotate_left; (focus (intro w hSw; (try dsimp only at hSw); (have f1 := J w hSw; have f9 := hA0); go_simp; first | done | with_reducible rfl)); simp only [Act.put, List.setIfInBounds_toArray, List.set_cons_zero, List.set_cons_succ])
    (refine mv_val 13 (v := ?_) rfl (by kernel_rfl) (by kernel_rfl) (by kernel_rfl) (fun _ _ _ h => h) (by rfl) hS ?_ ?_; rotate_left; (focus (intro w hSw; (try dsimp only at hSw); (have f1 := J w hSw; have f9 := hA0); go_simp; first | done | with_reducible rfl)); simp only [Act.put, List.setIfInBounds_toArray, List.set_cons_zero, List.set_cons_succ])
    (refine mv_val 14 (v := ?_) rfl (by kernel_rfl) (by kernel_rfl) (by kernel_rfl) (fun _ _ _ h => h) (by rfl) hS ?_ ?_; rotate_left; (focus (intro w hSw; (try dsimp only at hSw); (have f1 := J w hSw; have f9 := hA0); go_simp; first | done | with_reducible rfl)); simp only [Act.put, List.setIfInBounds_toArray, List.set_cons_zero, List.set_cons_succ])
    (refine mv_val 15 (v := ?_) rfl (by kernel_rfl) (by kernel_rfl) (by kernel_rfl) (fun _ _ _ h => h) (by rfl) hS ?_ ?_; rotate_left; (focus (intro w hSw; (try dsimp only at hSw); (have f1 := J w hSw; have f9 := hA0); go_simp; first | done | with_reducible rfl)); simp only [Act.put, List.setIfInBounds_toArray, List.set_cons_zero, List.set_cons_succ])
    (refine mv_val 16 (v := ?_) rfl (by kernel_rfl) (by kernel_rfl) (by kernel_rfl) (fun _ _ _ h => h) (by rfl) hS ?_ ?_; rotate_left; (focus (intro w hSw; (try dsimp only at hSw); (have f1 := J w hSw; have f9 := hA0); go_simp; first | done | with_reducible rfl)); simp only [Act.put, List.setIfInBounds_toArray, List.set_cons_zero, List.set_cons_succ])
    (refine mv_val 18 (v := ?_) rfl (by kernel_rfl) (by kernel_rfl) (by kernel_rfl) (fun _ _ _ h => h) (by rfl) hS ?_ ?_; rotate_left; (focus (intro w hSw; (try dsimp only at hSw); (have f1 := J w hSw; have f9 := hA0); go_simp; first | done | with_reducible rfl)); simp only [Act.put, List.setIfInBounds_toArray, List.set_cons_zero, List.set_cons_succ])
    (refine mv_call 17 (f := ?_) (args := ?_) rfl (by kernel_rfl) (by rfl) ?_ ?_; rotate_left 2; (focus (go_simp; first | done | with_reducible rfl | (refine ⟨?_, ?_⟩ <;> with_reducible rfl))))
    refine (P6.out _).mono ?_; rintro e v14_3 ⟨rfl, hv14⟩
    have hT : Below w6.heap.size w6 v14_3 := hS.trans (hv14.mono hS.size)
    refine ⟨_, rfl, hT, ?_⟩
    replace hS := hT
    clear hT hv14
    simp only [Act.put, List.setIfInBounds_toArray, List.set_cons_zero, List.set_cons_succ]
    (refine mv_val 19 (v := ?_) rfl (by kernel_rfl) (by kernel_rfl) (by kernel_rfl) (fun _ _ _ h => h) (by rfl) hS ?_ ?_; rotate_left; (focus (intro w hSw; (try dsimp only at hSw); (have f1 := J w hSw; have f9 := hA0); go_simp; first | done | with_reducible rfl)); simp only [Act.put, List.setIfInBounds_toArray, List.set_cons_zero, List.set_cons_succ])
    (refine mv_val 20 (v := ?_) rfl (by kernel_rfl) (by kernel_rfl) (by kernel_rfl) (fun _ _ _ h => h) (by rfl) hS ?_ ?_; rotate_left; (focus (intro w hSw; (try dsimp only at hSw); (have f1 := J w hSw; have f9 := hA0); go_simp; first | done | with_reducible rfl)); simp only [Act.put, List.setIfInBounds_toArray, List.set_cons_zero, List.set_cons_succ])
    (refine mv_val 21 (v := ?_) rfl (by kernel_rfl) (by kernel_rfl) (by kernel_rfl) (fun _ _ _ h => h) (by rfl) hS ?_ ?_; rotate_left; (focus (intro w hSw; (try dsimp only at hSw); (have f1 := J w hSw; have f9 := hA0); go_simp; first | done | with_reducible rfl)); simp only [Act.put, List.setIfInBounds_toArray, List.set_cons_zero, List.set_cons_succ])
    (refine mv_val 22 (v := ?_) rfl (by kernel_rfl) (by kernel_rfl) (by kernel_rfl) (fun _ _ _ h => h) (by rfl) hS ?_ ?_; rotate_left; (focus (intro w hSw; (try dsimp only at hSw); (have f1 := J w hSw; have f9 := hA0); go_simp; first | done | with_reducible rfl)); simp only [Act.put, List.setIfInBounds_toArray, List.set_cons_zero, List.set_cons_succ])
    (refine mv_val 23 (v := ?_) rfl (by kernel_rfl) (by kernel_rfl) (by kernel_rfl) (fun _ _ _ h => h) (by rfl) hS ?_ ?_; rotate_left; (focus (intro w hSw; (try dsimp only at hSw); (have f1 := J w hSw; have f9 := hA0); go_simp; first | done | with_reducible rfl)); simp only [Act.put, List.setIfInBounds_toArray, List.set_cons_zero, List.set_cons_succ])
    (refine mv_val 25 (v := ?_) rfl (by kernel_rfl) (by kernel_rfl) (by kernel_rfl) (fun _ _ _ h => h) (by rfl) hS ?_ ?_; rotate_left; (focus (intro w hSw; (try dsimp only at hSw); (have f1 := J w hSw; have f9 := hA0); go_simp; first | done | with_reducible rfl)); simp only [Act.put, List.setIfInBounds_toArray, List.set_cons_zero, List.set_cons_succ])
    (refine mv_val 26 (v := ?_) rfl (by kernel_rfl) (by kernel_rfl) (by kernel_rfl) (fun _ _ _ h => h) (by rfl) hS ?_ ?_; rotate_left; (focus (intro w hSw; (try dsimp only at hSw); (have f1 := J w hSw; have f9 := hA0); go_simp; first | done | with_reducible rfl)); simp only [Act.put, List.setIfInBounds_toArray, List.set_cons_zero, List.set_cons_succ])
    (refine mv_call 24 (f := ?_) (args := ?_) rfl (by kernel_rfl) (by rfl) ?_ ?_; rotate_left 2; (focus (go_simp; first | done | with_reducible rfl | (refine ⟨?_, ?_⟩ <;> with_reducible rfl))))
    refine (K7.out _).mono ?_; rintro e v14_4 ⟨rfl, hv14⟩
    have hT : Below w6.heap.size w6 v14_4 := hS.trans (hv14.mono hS.size)
    refine ⟨_, rfl, hT, ?_⟩
    replace hS := hT
    clear hT hv14
    simp only [Act.put, List.setIfInBounds_toArray, List.set_cons_zero, List.set_cons_succ]
    (refine mv_call 27 (f := ?_) (args := ?_) rfl (by kernel_rfl) (by rfl) ?_ ?_; rotate_left 2; (focus (go_simp; first | done | with_reducible rfl | (refine ⟨?_, ?_⟩ <;> with_reducible rfl))))
    refine (K8.out _).mono ?_; rintro e v14_5 ⟨rfl, hv14⟩
    have hT : Below w6.heap.size w6 v14_5 := hS.trans (hv14.mono hS.size)
    refine ⟨_, rfl, hT, ?_⟩
    replace hS := hT
    clear hT hv14
    simp only [Act.put, List.setIfInBounds_toArray, List.set_cons_zero, List.set_cons_succ]
    (refine mv_val 28 (v := ?_) rfl (by kernel_rfl) (by kernel_rfl) (by kernel_rfl) (fun _ _ _ h => h) (by rfl) hS ?_ ?_; rotate_left; (focus (intro w hSw; (try dsimp only at hSw); (have f1 := J w hSw; have f9 := hA0); go_simp; first | done | with_reducible rfl)); simp only [Act.put, List.setIfInBounds_toArray, List.set_cons_zero, List.set_cons_succ])
    (refine mv_val 29 (v := ?_) rfl (by kernel_rfl) (by kernel_rfl) (by kernel_rfl) (fun _ _ _ h => h) (by rfl) hS ?_ ?_; rotate_left; (focus (intro w hSw; (try dsimp only at hSw); (have f1 := J w hSw; have f9 := hA0); go_simp; first | done | with_reducible rfl)); simp only [Act.put, List.setIfInBounds_toArray, List.set_cons_zero, List.set_cons_succ])
    (refine mv_val 30 (v := ?_) rfl (by kernel_rfl) (by kernel_rfl) (by kernel_rfl) (fun _ _ _ h => h) (by rfl) hS ?_ ?_; rotate_left; (focus (intro w hSw; (try dsimp only at hSw); (have f1 := J w hSw; have f9 := hA0); go_simp; first | done | with_reducible rfl)); simp only [Act.put, List.setIfInBounds_toArray, List.set_cons_zero, List.set_cons_succ])
    (refine mv_call 31 (f := ?_) (args := ?_) rfl (by kernel_rfl) (by rfl) ?_ ?_; rotate_left 2; (focus (go_simp; first | done | with_reducible rfl | (refine ⟨?_, ?_⟩ <;> with_reducible rfl))))
    refine (wakes9_any _).mono ?_; rintro e v14_6 ⟨rfl, hv14⟩
    have hT : Below w6.heap.size w6 v14_6 := hS.trans (hv14.mono hS.size)
    refine ⟨_, rfl, hT, ?_⟩
    replace hS := hT
    clear hT hv14
    simp only [Act.put, List.setIfInBounds_toArray, List.set_cons_zero, List.set_cons_succ]
    (refine mv_val 32 (v := ?_) rfl (by kernel_rfl) (by kernel_rfl) (by kernel_rfl) (fun _ _ _ h => h) (by rfl) hS ?_ ?_; rotate_left; (focus (intro w hSw; (try dsimp only at hSw); (have f1 := J w hSw; have f9 := hA0); go_simp; first | done | with_reducible rfl)); simp only [Act.put, List.setIfInBounds_toArray, List.set_cons_zero, List.set_cons_succ])
    (refine mv_val 33 (v := ?_) rfl (by kernel_rfl) (by kernel_rfl) (by kernel_rfl) (fun _ _ _ h => h) (by rfl) hS ?_ ?_; rotate_left; (focus (intro w hSw; (try dsimp only at hSw); (have f1 := J w hSw; have f9 := hA0); go_simp; first | done | with_reducible rfl)); simp only [Act.put, List.setIfInBounds_toArray, List.set_cons_zero, List.set_cons_succ])
    refine wpAnyH_done (by kernel_rfl) ?_ _
    go_wp2_with fail
    go_ret
    exact ⟨rfl, bel6.trans (hS.mono bel6.size)⟩
end Go.Proofs.Ytdijmfnjjcknaaa

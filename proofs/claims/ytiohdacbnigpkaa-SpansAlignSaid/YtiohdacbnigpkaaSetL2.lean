/- The walk of the known examples of layer 10: they are true. No condition. Printed by gen_setl2.py. -/
import Derived.Test.YtiohdacbnigpkaaSetL1
namespace Go.Proofs.Ytiohdacbnigpkaa
open Go.RowKit Go.Maps
set_option linter.unusedVariables false
set_option linter.unusedSimpArgs false

/-- What a call that answers spans and a number leaves. -/
def RetSN (w : World) (l : List S2) (z : Int) (e : Ending) (w' : World) : Prop :=
  ∃ A c, e = .returned (.tuple #[.slice A l.length c, .int .i64 z]) ∧ w'.ownsRow w.heap.size 27 2 (.slice A l.length c) l.length (scells l) ∧ Below w.heap.size w w'
theorem retSN_of {w w' : World} {e : Ending} {l : List S2} {z : Int} (h : RetSE w (l, z) e w') : RetSN w l z e w' := h
theorem wk_of : ofL [(5, 9), (1, 3), (3, 4), (8, 8), (7, 12)] = [(1, 4), (5, 12)] := by
  refine ofL_of ⟨by decide, by decide, by decide, by simp, trivial⟩ fun t => ?_
  apply bool_ext
  simp only [hasB_cons, hasB_nil, Bool.or_eq_true, inS_iff, Bool.or_false]
  omega
theorem wk_minus : minR [(0, 10)] [(3, 5)] = [(0, 3), (5, 10)] := by
  refine form_eq (minR_form _ _) ⟨by decide, by decide, by decide, by simp, trivial⟩ fun t => ?_
  rw [minR_has]
  apply bool_ext
  simp only [hasB_cons, hasB_nil, Bool.or_eq_true, Bool.and_eq_true, inS_iff, Bool.or_false, Bool.not_eq_true', ← Bool.not_eq_true]
  omega
theorem wk_in0 : ofL [(3, 7), (7, 12)] = [(3, 12)] := by
  refine ofL_of ⟨by decide, by simp, trivial⟩ fun t => ?_
  apply bool_ext
  simp only [hasB_cons, hasB_nil, Bool.or_eq_true, inS_iff, Bool.or_false]
  omega
theorem wk_wrg : wrgS 5 [(3, 7), (7, 12)] = 0 := wrgS_tim ⟨by decide, by decide⟩ (by simp [tim])
theorem wk_in : inR 5 [(3, 7), (7, 12)] = ([(5, 10)], 0) := by
  rw [inR_ok wk_wrg]
  unfold inL
  rw [wk_in0]
  have h : [((3 : Int), (12 : Int))].map (iS 5) = [(5, 10)] := by decide +kernel
  rw [h]
  congr 1
  exact ofL_of ⟨by decide, by simp, trivial⟩ fun t => rfl
set_option maxHeartbeats 2000000 in
set_option maxRecDepth 100000 in
theorem wakes_any (w : World) : Calls Try.prog 11 #[] w fun e w' => e = .returned (.bool true) ∧ Below w.heap.size w w' := by
  have KA := Lib.hid (fun (w : World) (A : Option Addr) (c : Nat) (h : Rd w w.heap.size A (scells [(5, 9), (1, 3), (3, 4), (8, 8), (7, 12)])) => show Calls Try.prog 22 #[.slice A 5 c] w (RetSs w [(1, 4), (5, 12)]) by have := of_any w.heap.size A c _ w h (Nat.le_refl _) (by decide); rw [wk_of] at this; exact this)
  have KB := Lib.hid (fun (w : World) (A A' : Option Addr) (c c' : Nat) (h : Rd w w.heap.size A (scells [(0, 10)])) (h' : Rd w w.heap.size A' (scells [(3, 5)])) => show Calls Try.prog 19 #[.slice A 1 c, .slice A' 1 c'] w (RetSs w [(0, 3), (5, 10)]) by have := sMinus_any w.heap.size A A' c c' _ _ w h h' (Nat.le_refl _) (by decide); rw [show (nf fun t => hasB [((0 : Int), (10 : Int))] t && !hasB [((3 : Int), (5 : Int))] t) = [(0, 3), (5, 10)] from wk_minus] at this; exact this)
  have KC := Lib.hid (fun (w : World) (A : Option Addr) (c : Nat) (h : Rd w w.heap.size A (scells [(3, 7), (7, 12)])) => show Calls Try.prog 14 #[.slice A 2 c, .int .i64 5] w (RetSN w [(5, 10)] 0) by have := sIn_any w.heap.size A c _ 5 w h (Nat.le_refl _) (by decide); rw [wk_in] at this; exact this)
  have KS2 := Lib.hid (fun (w : World) (l : List S2) (A A' : Option Addr) (c c' : Nat) (hl : l.length = 2) (h : Rd w w.heap.size A (scells l)) (h' : Rd w w.heap.size A' (scells l)) => show Calls Try.prog 25 #[.slice A 2 c, .slice A' 2 c'] w (fun e w' => e = .returned (.bool true) ∧ Below w.heap.size w w') by have := rSame_any w.heap.size A A' c c' l l w h h' (Nat.le_refl _) (by rw [hl]; decide); rw [decide_eq_true rfl, hl] at this; exact this)
  have KS1 := Lib.hid (fun (w : World) (l : List S2) (A A' : Option Addr) (c c' : Nat) (hl : l.length = 1) (h : Rd w w.heap.size A (scells l)) (h' : Rd w w.heap.size A' (scells l)) => show Calls Try.prog 25 #[.slice A 1 c, .slice A' 1 c'] w (fun e w' => e = .returned (.bool true) ∧ Below w.heap.size w w') by have := rSame_any w.heap.size A A' c c' l l w h h' (Nat.le_refl _) (by rw [hl]; decide); rw [decide_eq_true rfl, hl] at this; exact this)
  have KH1 := Lib.hid (fun (w : World) (A : Option Addr) (c : Nat) (h : Rd w w.heap.size A (scells [(1, 4), (5, 12)])) => show Calls Try.prog 17 #[.slice A 2 c, .int .i64 11] w (fun e w' => e = .returned (.bool true) ∧ Below w.heap.size w w') from sHas_any w.heap.size A c [(1, 4), (5, 12)] 11 w h (Nat.le_refl _) (by decide))
  have KH2 := Lib.hid (fun (w : World) (A : Option Addr) (c : Nat) (h : Rd w w.heap.size A (scells [(1, 4), (5, 12)])) => show Calls Try.prog 17 #[.slice A 2 c, .int .i64 4] w (fun e w' => e = .returned (.bool false) ∧ Below w.heap.size w w') from sHas_any w.heap.size A c [(1, 4), (5, 12)] 4 w h (Nat.le_refl _) (by decide))
  have KP := Lib.hid (fun x y w => sp_any x y w)
  have B0 : Below w.heap.size w w := Below.refl _ _
  go_enter Try.func11, Try.ntmps11
  go_wp2_with fail
  refine (KP.out _ _ _).mono ?_; rintro e w1 ⟨rfl, q1⟩
  replace B0 := B0.trans (q1.mono B0.size)
  clear q1
  go_wp2_with fail
  refine (KP.out _ _ _).mono ?_; rintro e w2 ⟨rfl, q2⟩
  replace B0 := B0.trans (q2.mono B0.size)
  clear q2
  go_wp2_with fail
  refine (KP.out _ _ _).mono ?_; rintro e w3 ⟨rfl, q3⟩
  replace B0 := B0.trans (q3.mono B0.size)
  clear q3
  go_wp2_with fail
  refine (KP.out _ _ _).mono ?_; rintro e w4 ⟨rfl, q4⟩
  replace B0 := B0.trans (q4.mono B0.size)
  clear q4
  go_wp2_with fail
  refine (KP.out _ _ _).mono ?_; rintro e w5 ⟨rfl, q5⟩
  replace B0 := B0.trans (q5.mono B0.size)
  clear q5
  go_wp2_with fail
  obtain ⟨w6, hw6⟩ : ∃ w', w' = (w5.alloc (.cells #[.int .i64 5, .int .i64 9, .int .i64 1, .int .i64 3, .int .i64 3, .int .i64 4, .int .i64 8, .int .i64 8, .int .i64 7, .int .i64 12] 27)) := ⟨_, rfl⟩
  have q6 : Below w5.heap.size w5 w6 := by rw [hw6]; exact ((Below.refl _ w5).alloc (Nat.le_refl _) _)
  have r_l1 : Rd w6 w6.heap.size (some ⟨w5.heap.size, 0, none⟩) (scells [(5, 9), (1, 3), (3, 4), (8, 8), (7, 12)]) := by rw [hw6]; exact rd_arr w5 (scells [(5, 9), (1, 3), (3, 4), (8, 8), (7, 12)]) 27 _ _ rfl (by simp)
  rw [← hw6]
  replace B0 := B0.trans (q6.mono B0.size)
  clear hw6 q6
  refine (KA.out _ _ _ r_l1).mono ?_; rintro e w7 ⟨A_a, c_a, rfl, o_a, q7⟩
  replace r_l1 := r_l1.next q7
  replace B0 := B0.trans (q7.mono B0.size)
  have r_a := rd_own o_a
  clear o_a q7
  clear r_l1
  go_wp2_with fail
  refine (KP.out _ _ _).mono ?_; rintro e w8 ⟨rfl, q8⟩
  replace r_a := r_a.next q8
  replace B0 := B0.trans (q8.mono B0.size)
  clear q8
  go_wp2_with fail
  obtain ⟨w9, hw9⟩ : ∃ w', w' = (w8.alloc (.cells #[.int .i64 0, .int .i64 10] 27)) := ⟨_, rfl⟩
  have q9 : Below w8.heap.size w8 w9 := by rw [hw9]; exact ((Below.refl _ w8).alloc (Nat.le_refl _) _)
  have r_l2 : Rd w9 w9.heap.size (some ⟨w8.heap.size, 0, none⟩) (scells [(0, 10)]) := by rw [hw9]; exact rd_arr w8 (scells [(0, 10)]) 27 _ _ rfl (by simp)
  rw [← hw9]
  replace r_a := r_a.next q9
  replace B0 := B0.trans (q9.mono B0.size)
  clear hw9 q9
  go_wp2_with fail
  refine (KP.out _ _ _).mono ?_; rintro e w10 ⟨rfl, q10⟩
  replace r_a := r_a.next q10
  replace r_l2 := r_l2.next q10
  replace B0 := B0.trans (q10.mono B0.size)
  clear q10
  go_wp2_with fail
  obtain ⟨w11, hw11⟩ : ∃ w', w' = (w10.alloc (.cells #[.int .i64 3, .int .i64 5] 27)) := ⟨_, rfl⟩
  have q11 : Below w10.heap.size w10 w11 := by rw [hw11]; exact ((Below.refl _ w10).alloc (Nat.le_refl _) _)
  have r_l3 : Rd w11 w11.heap.size (some ⟨w10.heap.size, 0, none⟩) (scells [(3, 5)]) := by rw [hw11]; exact rd_arr w10 (scells [(3, 5)]) 27 _ _ rfl (by simp)
  rw [← hw11]
  replace r_a := r_a.next q11
  replace r_l2 := r_l2.next q11
  replace B0 := B0.trans (q11.mono B0.size)
  clear hw11 q11
  refine (KB.out _ _ _ _ _ r_l2 r_l3).mono ?_; rintro e w12 ⟨A_b, c_b, rfl, o_b, q12⟩
  replace r_a := r_a.next q12
  replace r_l2 := r_l2.next q12
  replace r_l3 := r_l3.next q12
  replace B0 := B0.trans (q12.mono B0.size)
  have r_b := rd_own o_b
  clear o_b q12
  clear r_l2 r_l3
  go_wp2_with fail
  refine (KP.out _ _ _).mono ?_; rintro e w13 ⟨rfl, q13⟩
  replace r_a := r_a.next q13
  replace r_b := r_b.next q13
  replace B0 := B0.trans (q13.mono B0.size)
  clear q13
  go_wp2_with fail
  refine (KP.out _ _ _).mono ?_; rintro e w14 ⟨rfl, q14⟩
  replace r_a := r_a.next q14
  replace r_b := r_b.next q14
  replace B0 := B0.trans (q14.mono B0.size)
  clear q14
  go_wp2_with fail
  obtain ⟨w15, hw15⟩ : ∃ w', w' = (w14.alloc (.cells #[.int .i64 3, .int .i64 7, .int .i64 7, .int .i64 12] 27)) := ⟨_, rfl⟩
  have q15 : Below w14.heap.size w14 w15 := by rw [hw15]; exact ((Below.refl _ w14).alloc (Nat.le_refl _) _)
  have r_l4 : Rd w15 w15.heap.size (some ⟨w14.heap.size, 0, none⟩) (scells [(3, 7), (7, 12)]) := by rw [hw15]; exact rd_arr w14 (scells [(3, 7), (7, 12)]) 27 _ _ rfl (by simp)
  rw [← hw15]
  replace r_a := r_a.next q15
  replace r_b := r_b.next q15
  replace B0 := B0.trans (q15.mono B0.size)
  clear hw15 q15
  refine (KC.out _ _ _ r_l4).mono ?_; rintro e w16 ⟨A_c, c_c, rfl, o_c, q16⟩
  replace r_a := r_a.next q16
  replace r_b := r_b.next q16
  replace r_l4 := r_l4.next q16
  replace B0 := B0.trans (q16.mono B0.size)
  have r_c := rd_own o_c
  clear o_c q16
  clear r_l4
  go_wp2_with fail
  refine (KP.out _ _ _).mono ?_; rintro e w17 ⟨rfl, q17⟩
  replace r_a := r_a.next q17
  replace r_b := r_b.next q17
  replace r_c := r_c.next q17
  replace B0 := B0.trans (q17.mono B0.size)
  clear q17
  go_wp2_with fail
  refine (KP.out _ _ _).mono ?_; rintro e w18 ⟨rfl, q18⟩
  replace r_a := r_a.next q18
  replace r_b := r_b.next q18
  replace r_c := r_c.next q18
  replace B0 := B0.trans (q18.mono B0.size)
  clear q18
  go_wp2_with fail
  obtain ⟨w19, hw19⟩ : ∃ w', w' = (w18.alloc (.cells #[.int .i64 1, .int .i64 4, .int .i64 5, .int .i64 12] 27)) := ⟨_, rfl⟩
  have q19 : Below w18.heap.size w18 w19 := by rw [hw19]; exact ((Below.refl _ w18).alloc (Nat.le_refl _) _)
  have r_l5 : Rd w19 w19.heap.size (some ⟨w18.heap.size, 0, none⟩) (scells [(1, 4), (5, 12)]) := by rw [hw19]; exact rd_arr w18 (scells [(1, 4), (5, 12)]) 27 _ _ rfl (by simp)
  rw [← hw19]
  replace r_a := r_a.next q19
  replace r_b := r_b.next q19
  replace r_c := r_c.next q19
  replace B0 := B0.trans (q19.mono B0.size)
  clear hw19 q19
  refine (KS2.out _ _ _ _ _ _ rfl r_a r_l5).mono ?_; rintro e w20 ⟨rfl, q20⟩
  replace r_a := r_a.next q20
  replace r_b := r_b.next q20
  replace r_c := r_c.next q20
  replace r_l5 := r_l5.next q20
  replace B0 := B0.trans (q20.mono B0.size)
  clear q20
  clear r_l5
  go_wp2_with fail
  refine (KP.out _ _ _).mono ?_; rintro e w21 ⟨rfl, q21⟩
  replace r_a := r_a.next q21
  replace r_b := r_b.next q21
  replace r_c := r_c.next q21
  replace B0 := B0.trans (q21.mono B0.size)
  clear q21
  go_wp2_with fail
  refine (KP.out _ _ _).mono ?_; rintro e w22 ⟨rfl, q22⟩
  replace r_a := r_a.next q22
  replace r_b := r_b.next q22
  replace r_c := r_c.next q22
  replace B0 := B0.trans (q22.mono B0.size)
  clear q22
  go_wp2_with fail
  obtain ⟨w23, hw23⟩ : ∃ w', w' = (w22.alloc (.cells #[.int .i64 0, .int .i64 3, .int .i64 5, .int .i64 10] 27)) := ⟨_, rfl⟩
  have q23 : Below w22.heap.size w22 w23 := by rw [hw23]; exact ((Below.refl _ w22).alloc (Nat.le_refl _) _)
  have r_l6 : Rd w23 w23.heap.size (some ⟨w22.heap.size, 0, none⟩) (scells [(0, 3), (5, 10)]) := by rw [hw23]; exact rd_arr w22 (scells [(0, 3), (5, 10)]) 27 _ _ rfl (by simp)
  rw [← hw23]
  replace r_a := r_a.next q23
  replace r_b := r_b.next q23
  replace r_c := r_c.next q23
  replace B0 := B0.trans (q23.mono B0.size)
  clear hw23 q23
  refine (KS2.out _ _ _ _ _ _ rfl r_b r_l6).mono ?_; rintro e w24 ⟨rfl, q24⟩
  replace r_a := r_a.next q24
  replace r_b := r_b.next q24
  replace r_c := r_c.next q24
  replace r_l6 := r_l6.next q24
  replace B0 := B0.trans (q24.mono B0.size)
  clear q24
  clear r_l6
  go_wp2_with fail
  refine (KP.out _ _ _).mono ?_; rintro e w25 ⟨rfl, q25⟩
  replace r_a := r_a.next q25
  replace r_b := r_b.next q25
  replace r_c := r_c.next q25
  replace B0 := B0.trans (q25.mono B0.size)
  clear q25
  go_wp2_with fail
  obtain ⟨w26, hw26⟩ : ∃ w', w' = (w25.alloc (.cells #[.int .i64 5, .int .i64 10] 27)) := ⟨_, rfl⟩
  have q26 : Below w25.heap.size w25 w26 := by rw [hw26]; exact ((Below.refl _ w25).alloc (Nat.le_refl _) _)
  have r_l7 : Rd w26 w26.heap.size (some ⟨w25.heap.size, 0, none⟩) (scells [(5, 10)]) := by rw [hw26]; exact rd_arr w25 (scells [(5, 10)]) 27 _ _ rfl (by simp)
  rw [← hw26]
  replace r_a := r_a.next q26
  replace r_b := r_b.next q26
  replace r_c := r_c.next q26
  replace B0 := B0.trans (q26.mono B0.size)
  clear hw26 q26
  refine (KS1.out _ _ _ _ _ _ rfl r_c r_l7).mono ?_; rintro e w27 ⟨rfl, q27⟩
  replace r_a := r_a.next q27
  replace r_b := r_b.next q27
  replace r_c := r_c.next q27
  replace r_l7 := r_l7.next q27
  replace B0 := B0.trans (q27.mono B0.size)
  clear q27
  go_wp2_with fail
  refine (KH1.out _ _ _ r_a).mono ?_; rintro e w28 ⟨rfl, q28⟩
  replace r_a := r_a.next q28
  replace r_b := r_b.next q28
  replace r_c := r_c.next q28
  replace r_l7 := r_l7.next q28
  replace B0 := B0.trans (q28.mono B0.size)
  clear q28
  go_wp2_with fail
  refine (KH2.out _ _ _ r_a).mono ?_; rintro e w29 ⟨rfl, q29⟩
  replace r_a := r_a.next q29
  replace r_b := r_b.next q29
  replace r_c := r_c.next q29
  replace r_l7 := r_l7.next q29
  replace B0 := B0.trans (q29.mono B0.size)
  clear q29
  go_wp2_with fail
  go_ret
  exact ⟨rfl, B0⟩
end Go.Proofs.Ytiohdacbnigpkaa

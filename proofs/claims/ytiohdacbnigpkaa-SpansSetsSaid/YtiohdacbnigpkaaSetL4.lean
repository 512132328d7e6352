/- The walk of the law SpansSets: it answers true. No condition. Printed by gen_setl4.py. -/
import Derived.Test.YtiohdacbnigpkaaSetL3
namespace Go.Proofs.Ytiohdacbnigpkaa
open Go.RowKit Go.Maps
set_option linter.unusedVariables false
set_option linter.unusedSimpArgs false

set_option maxHeartbeats 4000000 in
set_option maxRecDepth 100000 in
theorem spansSets_walk (A : Option Addr) (ca : Nat) (a : List S2) (A' : Option Addr) (cb : Nat) (b : List S2) (A'' : Option Addr) (cc : Nat) (c : List S2) (w : World) (r_a : RdS w A a) (s_a : ∀ x ∈ a, sok x) (r_b : RdS w A' b) (s_b : ∀ x ∈ b, sok x) (r_c : RdS w A'' c) (s_c : ∀ x ∈ c, sok x) :
    Calls Try.prog 4 #[.slice A a.length ca, .slice A' b.length cb, .slice A'' c.length cc] w fun e w' => e = .returned (.bool true) ∧ Below w.heap.size w w' := by
  clear s_a s_b s_c
  have B0 : Below w.heap.size w w := Below.refl _ _
  by_cases hgr : 40 < a.length ∨ 40 < b.length ∨ 40 < c.length
  case pos =>
    have KG := Lib.hid (fun (w' : World) (h : Rd w' (w.heap.size + 1) (some ⟨w.heap.size, 0, none⟩) [.slice A a.length ca, .slice A' b.length cb, .slice A'' c.length cc]) => show Calls Try.prog 8 #[.slice (some ⟨w.heap.size, 0, none⟩) 3 3] w' _ from great_any (w.heap.size + 1) _ 3 [(A, a.length, ca), (A', b.length, cb), (A'', c.length, cc)] true (by simp; omega) w' h (by simp))
    clear hgr
    go_enter Try.func4, Try.ntmps4
    go_wp2_with fail
    obtain ⟨w1, hw1⟩ : ∃ w', w' = (w.alloc (.cells #[.slice A a.length ca, .slice A' b.length cb, .slice A'' c.length cc] 22)) := ⟨_, rfl⟩
    have q1 : Below w.heap.size w w1 := by rw [hw1]; exact ((Below.refl _ w).alloc (Nat.le_refl _) _)
    have r_sl : Rd w1 (w.heap.size + 1) (some ⟨w.heap.size, 0, none⟩) [.slice A a.length ca, .slice A' b.length cb, .slice A'' c.length cc] := by rw [hw1]; exact rd_arr w [.slice A a.length ca, .slice A' b.length cb, .slice A'' c.length cc] _ _ _ rfl (by omega)
    rw [← hw1]
    replace r_a := r_a.next q1
    replace r_b := r_b.next q1
    replace r_c := r_c.next q1
    replace B0 := B0.trans (q1.mono B0.size)
    clear hw1 q1
    refine (KG.out _ r_sl).mono ?_; rintro e wq ⟨rfl, hq⟩; subst hq
    go_wp2_with fail
    refine (wakes_any _).mono ?_; rintro e w2 ⟨rfl, q2⟩
    replace r_a := r_a.next q2
    replace r_b := r_b.next q2
    replace r_c := r_c.next q2
    replace B0 := B0.trans (q2.mono B0.size)
    clear q2
    go_wp2_with fail
    go_ret
    exact ⟨rfl, B0⟩
  case neg =>
    have KG := Lib.hid (fun (w' : World) (h : Rd w' (w.heap.size + 1) (some ⟨w.heap.size, 0, none⟩) [.slice A a.length ca, .slice A' b.length cb, .slice A'' c.length cc]) => show Calls Try.prog 8 #[.slice (some ⟨w.heap.size, 0, none⟩) 3 3] w' _ from great_any (w.heap.size + 1) _ 3 [(A, a.length, ca), (A', b.length, cb), (A'', c.length, cc)] false (by simp; omega) w' h (by simp))
    have l_a : a.length ≤ 40 := by omega
    have l_b : b.length ≤ 40 := by omega
    have l_c : c.length ≤ 40 := by omega
    clear hgr
    have E_o : ofL (a ++ b) = ofL (a ++ b) := rfl
    have E_o2 : ofL (a ++ b) = ofL (b ++ a) := ofL_eq fun t => by rw [hasB_app, hasB_app, Bool.or_comm]
    have L_o := ofL_len (a ++ b)
    have E_x : andR a b = andR a b := rfl
    have E_x2 : andR a b = andR b a := form_eq (andR_form _ _) (andR_form _ _) fun t => by rw [andR_has, andR_has, Bool.and_comm]
    have L_x := andR_len a b
    have E_bc : ofL (b ++ c) = ofL (b ++ c) := rfl
    have L_bc := ofL_len (b ++ c)
    have E_oc : ofL (ofL (a ++ b) ++ c) = ofL (ofL (a ++ b) ++ c) := rfl
    have E_oc2 : ofL (ofL (a ++ b) ++ c) = ofL (a ++ ofL (b ++ c)) := ofL_eq fun t => by rw [hasB_app, hasB_app, ofL_has, ofL_has, hasB_app, hasB_app, Bool.or_assoc]
    have L_oc := ofL_len (ofL (a ++ b) ++ c)
    have E_m : minR a b = minR a b := rfl
    have L_m := minR_len a b
    have E_f : ofL a = ofL a := rfl
    have E_f2 : ofL a = ofL (andR a b ++ minR a b) := ofL_eq fun t => by rw [hasB_app, andR_has, minR_has]; cases hasB a t <;> cases hasB b t <;> rfl
    have L_f := ofL_len a
    have E_d : minR a (ofL (b ++ c)) = minR a (ofL (b ++ c)) := rfl
    have E_d2 : minR a (ofL (b ++ c)) = minR (minR a b) c := form_eq (minR_form _ _) (minR_form _ _) fun t => by rw [minR_has, minR_has, minR_has, ofL_has, hasB_app]; cases hasB a t <;> cases hasB b t <;> rfl
    have L_d := minR_len a (ofL (b ++ c))
    have E_z1 : ([] : List S2) = andR (andR a b) (minR a b) := (nil_of (andR_form _ _) fun t => by rw [andR_has, andR_has, minR_has]; cases hasB a t <;> cases hasB b t <;> rfl).symm
    have E_z2 : ([] : List S2) = andR (minR a b) b := (nil_of (andR_form _ _) fun t => by rw [andR_has, minR_has]; cases hasB a t <;> cases hasB b t <;> rfl).symm
    have E_z3 : ([] : List S2) = minR a a := (nil_of (minR_form _ _) fun t => by rw [minR_has]; cases hasB a t <;> rfl).symm
    simp only [List.length_append] at L_o L_bc L_oc
    obtain ⟨o, ho⟩ : ∃ r, r = ofL (a ++ b) := ⟨_, rfl⟩
    simp only [← ho] at E_o E_o2 E_x E_x2 E_bc E_oc E_oc2 E_m E_f E_f2 E_d E_d2 E_z1 E_z2 E_z3 L_o L_x L_bc L_oc L_m L_f L_d
    obtain ⟨x, hx⟩ : ∃ r, r = andR a b := ⟨_, rfl⟩
    simp only [← hx] at E_o E_o2 E_x E_x2 E_bc E_oc E_oc2 E_m E_f E_f2 E_d E_d2 E_z1 E_z2 E_z3 L_o L_x L_bc L_oc L_m L_f L_d
    obtain ⟨bc, hbc⟩ : ∃ r, r = ofL (b ++ c) := ⟨_, rfl⟩
    simp only [← hbc] at E_o E_o2 E_x E_x2 E_bc E_oc E_oc2 E_m E_f E_f2 E_d E_d2 E_z1 E_z2 E_z3 L_o L_x L_bc L_oc L_m L_f L_d
    obtain ⟨m, hm⟩ : ∃ r, r = minR a b := ⟨_, rfl⟩
    simp only [← hm] at E_o E_o2 E_x E_x2 E_bc E_oc E_oc2 E_m E_f E_f2 E_d E_d2 E_z1 E_z2 E_z3 L_o L_x L_bc L_oc L_m L_f L_d
    obtain ⟨f, hf⟩ : ∃ r, r = ofL a := ⟨_, rfl⟩
    simp only [← hf] at E_o E_o2 E_x E_x2 E_bc E_oc E_oc2 E_m E_f E_f2 E_d E_d2 E_z1 E_z2 E_z3 L_o L_x L_bc L_oc L_m L_f L_d
    obtain ⟨oc, hoc⟩ : ∃ r, r = ofL (o ++ c) := ⟨_, rfl⟩
    simp only [← hoc] at E_o E_o2 E_x E_x2 E_bc E_oc E_oc2 E_m E_f E_f2 E_d E_d2 E_z1 E_z2 E_z3 L_o L_x L_bc L_oc L_m L_f L_d
    obtain ⟨d, hd⟩ : ∃ r, r = minR a bc := ⟨_, rfl⟩
    simp only [← hd] at E_o E_o2 E_x E_x2 E_bc E_oc E_oc2 E_m E_f E_f2 E_d E_d2 E_z1 E_z2 E_z3 L_o L_x L_bc L_oc L_m L_f L_d
    have H_o := Lib.hid ho
    have H_x := Lib.hid hx
    have H_bc := Lib.hid hbc
    have H_m := Lib.hid hm
    have H_f := Lib.hid hf
    have H_oc := Lib.hid hoc
    have H_d := Lib.hid hd
    have H_o2 := Lib.hid E_o2
    have H_x2 := Lib.hid E_x2
    have H_oc2 := Lib.hid E_oc2
    have H_f2 := Lib.hid E_f2
    have H_d2 := Lib.hid E_d2
    have H_z1 := Lib.hid E_z1
    have H_z2 := Lib.hid E_z2
    have H_z3 := Lib.hid E_z3
    clear E_o E_o2 E_x E_x2 E_bc E_oc E_oc2 E_m E_f E_f2 E_d E_d2 E_z1 E_z2 E_z3 ho hx hbc hm hf hoc hd
    go_enter Try.func4, Try.ntmps4
    go_wp2_with fail
    obtain ⟨w1, hw1⟩ : ∃ w', w' = (w.alloc (.cells #[.slice A a.length ca, .slice A' b.length cb, .slice A'' c.length cc] 22)) := ⟨_, rfl⟩
    have q1 : Below w.heap.size w w1 := by rw [hw1]; exact ((Below.refl _ w).alloc (Nat.le_refl _) _)
    have r_sl : Rd w1 (w.heap.size + 1) (some ⟨w.heap.size, 0, none⟩) [.slice A a.length ca, .slice A' b.length cb, .slice A'' c.length cc] := by rw [hw1]; exact rd_arr w [.slice A a.length ca, .slice A' b.length cb, .slice A'' c.length cc] _ _ _ rfl (by omega)
    rw [← hw1]
    replace r_a := r_a.next q1
    replace r_b := r_b.next q1
    replace r_c := r_c.next q1
    replace B0 := B0.trans (q1.mono B0.size)
    clear hw1 q1
    refine (KG.out _ r_sl).mono ?_; rintro e wq ⟨rfl, hq⟩; subst hq
    clear r_sl KG
    go_wp2_with fail
    refine (kOwn (by omega) r_a).mono ?_; rintro e w2 ⟨A_p1, c_p1, rfl, o_p1, q2⟩
    replace r_a := r_a.next q2
    replace r_b := r_b.next q2
    replace r_c := r_c.next q2
    replace B0 := B0.trans (q2.mono B0.size)
    have r_p1 := rd_own o_p1
    clear o_p1 q2
    go_wp2_with fail
    refine (kOwn (by omega) r_b).mono ?_; rintro e w3 ⟨A_p2, c_p2, rfl, o_p2, q3⟩
    replace r_a := r_a.next q3
    replace r_b := r_b.next q3
    replace r_c := r_c.next q3
    replace r_p1 := r_p1.next q3
    replace B0 := B0.trans (q3.mono B0.size)
    have r_p2 := rd_own o_p2
    clear o_p2 q3
    go_wp2_with fail
    refine (kOr H_o.out ⟨by omega, by omega⟩ r_p1 r_p2).mono ?_; rintro e w4 ⟨A_q1, c_q1, rfl, o_q1, q4⟩
    replace r_a := r_a.next q4
    replace r_b := r_b.next q4
    replace r_c := r_c.next q4
    replace r_p1 := r_p1.next q4
    replace r_p2 := r_p2.next q4
    replace B0 := B0.trans (q4.mono B0.size)
    have r_q1 := rd_own o_q1
    clear o_q1 q4
    go_wp2_with fail
    refine (kOwn (by omega) r_b).mono ?_; rintro e w5 ⟨A_p3, c_p3, rfl, o_p3, q5⟩
    replace r_a := r_a.next q5
    replace r_b := r_b.next q5
    replace r_c := r_c.next q5
    replace r_p1 := r_p1.next q5
    replace r_p2 := r_p2.next q5
    replace r_q1 := r_q1.next q5
    replace B0 := B0.trans (q5.mono B0.size)
    have r_p3 := rd_own o_p3
    clear o_p3 q5
    go_wp2_with fail
    refine (kOwn (by omega) r_a).mono ?_; rintro e w6 ⟨A_p4, c_p4, rfl, o_p4, q6⟩
    replace r_a := r_a.next q6
    replace r_b := r_b.next q6
    replace r_c := r_c.next q6
    replace r_p1 := r_p1.next q6
    replace r_p2 := r_p2.next q6
    replace r_q1 := r_q1.next q6
    replace r_p3 := r_p3.next q6
    replace B0 := B0.trans (q6.mono B0.size)
    have r_p4 := rd_own o_p4
    clear o_p4 q6
    go_wp2_with fail
    refine (kOr H_o2.out ⟨by omega, by omega⟩ r_p3 r_p4).mono ?_; rintro e w7 ⟨A_q2, c_q2, rfl, o_q2, q7⟩
    replace r_a := r_a.next q7
    replace r_b := r_b.next q7
    replace r_c := r_c.next q7
    replace r_p1 := r_p1.next q7
    replace r_p2 := r_p2.next q7
    replace r_q1 := r_q1.next q7
    replace r_p3 := r_p3.next q7
    replace r_p4 := r_p4.next q7
    replace B0 := B0.trans (q7.mono B0.size)
    have r_q2 := rd_own o_q2
    clear o_q2 q7
    go_wp2_with fail
    refine (kEqual (by omega) r_q1 r_q2).mono ?_; rintro e w8 ⟨rfl, q8⟩
    replace r_a := r_a.next q8
    replace r_b := r_b.next q8
    replace r_c := r_c.next q8
    replace r_p1 := r_p1.next q8
    replace r_p2 := r_p2.next q8
    replace r_q1 := r_q1.next q8
    replace r_p3 := r_p3.next q8
    replace r_p4 := r_p4.next q8
    replace r_q2 := r_q2.next q8
    replace B0 := B0.trans (q8.mono B0.size)
    clear q8
    clear r_p1 r_p2 r_p3 r_p4 r_q1 r_q2
    go_wp2_with fail
    refine (kOwn (by omega) r_a).mono ?_; rintro e w9 ⟨A_p1, c_p1, rfl, o_p1, q9⟩
    replace r_a := r_a.next q9
    replace r_b := r_b.next q9
    replace r_c := r_c.next q9
    replace B0 := B0.trans (q9.mono B0.size)
    have r_p1 := rd_own o_p1
    clear o_p1 q9
    go_wp2_with fail
    refine (kOwn (by omega) r_b).mono ?_; rintro e w10 ⟨A_p2, c_p2, rfl, o_p2, q10⟩
    replace r_a := r_a.next q10
    replace r_b := r_b.next q10
    replace r_c := r_c.next q10
    replace r_p1 := r_p1.next q10
    replace B0 := B0.trans (q10.mono B0.size)
    have r_p2 := rd_own o_p2
    clear o_p2 q10
    go_wp2_with fail
    refine (kAnd H_x.out ⟨by omega, by omega⟩ r_p1 r_p2).mono ?_; rintro e w11 ⟨A_q1, c_q1, rfl, o_q1, q11⟩
    replace r_a := r_a.next q11
    replace r_b := r_b.next q11
    replace r_c := r_c.next q11
    replace r_p1 := r_p1.next q11
    replace r_p2 := r_p2.next q11
    replace B0 := B0.trans (q11.mono B0.size)
    have r_q1 := rd_own o_q1
    clear o_q1 q11
    go_wp2_with fail
    refine (kOwn (by omega) r_b).mono ?_; rintro e w12 ⟨A_p3, c_p3, rfl, o_p3, q12⟩
    replace r_a := r_a.next q12
    replace r_b := r_b.next q12
    replace r_c := r_c.next q12
    replace r_p1 := r_p1.next q12
    replace r_p2 := r_p2.next q12
    replace r_q1 := r_q1.next q12
    replace B0 := B0.trans (q12.mono B0.size)
    have r_p3 := rd_own o_p3
    clear o_p3 q12
    go_wp2_with fail
    refine (kOwn (by omega) r_a).mono ?_; rintro e w13 ⟨A_p4, c_p4, rfl, o_p4, q13⟩
    replace r_a := r_a.next q13
    replace r_b := r_b.next q13
    replace r_c := r_c.next q13
    replace r_p1 := r_p1.next q13
    replace r_p2 := r_p2.next q13
    replace r_q1 := r_q1.next q13
    replace r_p3 := r_p3.next q13
    replace B0 := B0.trans (q13.mono B0.size)
    have r_p4 := rd_own o_p4
    clear o_p4 q13
    go_wp2_with fail
    refine (kAnd H_x2.out ⟨by omega, by omega⟩ r_p3 r_p4).mono ?_; rintro e w14 ⟨A_q2, c_q2, rfl, o_q2, q14⟩
    replace r_a := r_a.next q14
    replace r_b := r_b.next q14
    replace r_c := r_c.next q14
    replace r_p1 := r_p1.next q14
    replace r_p2 := r_p2.next q14
    replace r_q1 := r_q1.next q14
    replace r_p3 := r_p3.next q14
    replace r_p4 := r_p4.next q14
    replace B0 := B0.trans (q14.mono B0.size)
    have r_q2 := rd_own o_q2
    clear o_q2 q14
    go_wp2_with fail
    refine (kEqual (by omega) r_q1 r_q2).mono ?_; rintro e w15 ⟨rfl, q15⟩
    replace r_a := r_a.next q15
    replace r_b := r_b.next q15
    replace r_c := r_c.next q15
    replace r_p1 := r_p1.next q15
    replace r_p2 := r_p2.next q15
    replace r_q1 := r_q1.next q15
    replace r_p3 := r_p3.next q15
    replace r_p4 := r_p4.next q15
    replace r_q2 := r_q2.next q15
    replace B0 := B0.trans (q15.mono B0.size)
    clear q15
    clear r_p1 r_p2 r_p3 r_p4 r_q1 r_q2
    go_wp2_with fail
    refine (kOwn (by omega) r_a).mono ?_; rintro e w16 ⟨A_p1, c_p1, rfl, o_p1, q16⟩
    replace r_a := r_a.next q16
    replace r_b := r_b.next q16
    replace r_c := r_c.next q16
    replace B0 := B0.trans (q16.mono B0.size)
    have r_p1 := rd_own o_p1
    clear o_p1 q16
    go_wp2_with fail
    refine (kOwn (by omega) r_b).mono ?_; rintro e w17 ⟨A_p2, c_p2, rfl, o_p2, q17⟩
    replace r_a := r_a.next q17
    replace r_b := r_b.next q17
    replace r_c := r_c.next q17
    replace r_p1 := r_p1.next q17
    replace B0 := B0.trans (q17.mono B0.size)
    have r_p2 := rd_own o_p2
    clear o_p2 q17
    go_wp2_with fail
    refine (kOr H_o.out ⟨by omega, by omega⟩ r_p1 r_p2).mono ?_; rintro e w18 ⟨A_q1, c_q1, rfl, o_q1, q18⟩
    replace r_a := r_a.next q18
    replace r_b := r_b.next q18
    replace r_c := r_c.next q18
    replace r_p1 := r_p1.next q18
    replace r_p2 := r_p2.next q18
    replace B0 := B0.trans (q18.mono B0.size)
    have r_q1 := rd_own o_q1
    clear o_q1 q18
    go_wp2_with fail
    refine (kOwn (by omega) r_c).mono ?_; rintro e w19 ⟨A_p3, c_p3, rfl, o_p3, q19⟩
    replace r_a := r_a.next q19
    replace r_b := r_b.next q19
    replace r_c := r_c.next q19
    replace r_p1 := r_p1.next q19
    replace r_p2 := r_p2.next q19
    replace r_q1 := r_q1.next q19
    replace B0 := B0.trans (q19.mono B0.size)
    have r_p3 := rd_own o_p3
    clear o_p3 q19
    go_wp2_with fail
    refine (kOr H_oc.out ⟨by omega, by omega⟩ r_q1 r_p3).mono ?_; rintro e w20 ⟨A_q2, c_q2, rfl, o_q2, q20⟩
    replace r_a := r_a.next q20
    replace r_b := r_b.next q20
    replace r_c := r_c.next q20
    replace r_p1 := r_p1.next q20
    replace r_p2 := r_p2.next q20
    replace r_q1 := r_q1.next q20
    replace r_p3 := r_p3.next q20
    replace B0 := B0.trans (q20.mono B0.size)
    have r_q2 := rd_own o_q2
    clear o_q2 q20
    go_wp2_with fail
    refine (kOwn (by omega) r_a).mono ?_; rintro e w21 ⟨A_p4, c_p4, rfl, o_p4, q21⟩
    replace r_a := r_a.next q21
    replace r_b := r_b.next q21
    replace r_c := r_c.next q21
    replace r_p1 := r_p1.next q21
    replace r_p2 := r_p2.next q21
    replace r_q1 := r_q1.next q21
    replace r_p3 := r_p3.next q21
    replace r_q2 := r_q2.next q21
    replace B0 := B0.trans (q21.mono B0.size)
    have r_p4 := rd_own o_p4
    clear o_p4 q21
    go_wp2_with fail
    refine (kOwn (by omega) r_b).mono ?_; rintro e w22 ⟨A_p5, c_p5, rfl, o_p5, q22⟩
    replace r_a := r_a.next q22
    replace r_b := r_b.next q22
    replace r_c := r_c.next q22
    replace r_p1 := r_p1.next q22
    replace r_p2 := r_p2.next q22
    replace r_q1 := r_q1.next q22
    replace r_p3 := r_p3.next q22
    replace r_q2 := r_q2.next q22
    replace r_p4 := r_p4.next q22
    replace B0 := B0.trans (q22.mono B0.size)
    have r_p5 := rd_own o_p5
    clear o_p5 q22
    go_wp2_with fail
    refine (kOwn (by omega) r_c).mono ?_; rintro e w23 ⟨A_p6, c_p6, rfl, o_p6, q23⟩
    replace r_a := r_a.next q23
    replace r_b := r_b.next q23
    replace r_c := r_c.next q23
    replace r_p1 := r_p1.next q23
    replace r_p2 := r_p2.next q23
    replace r_q1 := r_q1.next q23
    replace r_p3 := r_p3.next q23
    replace r_q2 := r_q2.next q23
    replace r_p4 := r_p4.next q23
    replace r_p5 := r_p5.next q23
    replace B0 := B0.trans (q23.mono B0.size)
    have r_p6 := rd_own o_p6
    clear o_p6 q23
    go_wp2_with fail
    refine (kOr H_bc.out ⟨by omega, by omega⟩ r_p5 r_p6).mono ?_; rintro e w24 ⟨A_q3, c_q3, rfl, o_q3, q24⟩
    replace r_a := r_a.next q24
    replace r_b := r_b.next q24
    replace r_c := r_c.next q24
    replace r_p1 := r_p1.next q24
    replace r_p2 := r_p2.next q24
    replace r_q1 := r_q1.next q24
    replace r_p3 := r_p3.next q24
    replace r_q2 := r_q2.next q24
    replace r_p4 := r_p4.next q24
    replace r_p5 := r_p5.next q24
    replace r_p6 := r_p6.next q24
    replace B0 := B0.trans (q24.mono B0.size)
    have r_q3 := rd_own o_q3
    clear o_q3 q24
    go_wp2_with fail
    refine (kOr H_oc2.out ⟨by omega, by omega⟩ r_p4 r_q3).mono ?_; rintro e w25 ⟨A_q4, c_q4, rfl, o_q4, q25⟩
    replace r_a := r_a.next q25
    replace r_b := r_b.next q25
    replace r_c := r_c.next q25
    replace r_p1 := r_p1.next q25
    replace r_p2 := r_p2.next q25
    replace r_q1 := r_q1.next q25
    replace r_p3 := r_p3.next q25
    replace r_q2 := r_q2.next q25
    replace r_p4 := r_p4.next q25
    replace r_p5 := r_p5.next q25
    replace r_p6 := r_p6.next q25
    replace r_q3 := r_q3.next q25
    replace B0 := B0.trans (q25.mono B0.size)
    have r_q4 := rd_own o_q4
    clear o_q4 q25
    go_wp2_with fail
    refine (kEqual (by omega) r_q2 r_q4).mono ?_; rintro e w26 ⟨rfl, q26⟩
    replace r_a := r_a.next q26
    replace r_b := r_b.next q26
    replace r_c := r_c.next q26
    replace r_p1 := r_p1.next q26
    replace r_p2 := r_p2.next q26
    replace r_q1 := r_q1.next q26
    replace r_p3 := r_p3.next q26
    replace r_q2 := r_q2.next q26
    replace r_p4 := r_p4.next q26
    replace r_p5 := r_p5.next q26
    replace r_p6 := r_p6.next q26
    replace r_q3 := r_q3.next q26
    replace r_q4 := r_q4.next q26
    replace B0 := B0.trans (q26.mono B0.size)
    clear q26
    clear r_p1 r_p2 r_p3 r_p4 r_p5 r_p6 r_q1 r_q2 r_q3 r_q4
    go_wp2_with fail
    refine (kOwn (by omega) r_a).mono ?_; rintro e w27 ⟨A_p1, c_p1, rfl, o_p1, q27⟩
    replace r_a := r_a.next q27
    replace r_b := r_b.next q27
    replace r_c := r_c.next q27
    replace B0 := B0.trans (q27.mono B0.size)
    have r_p1 := rd_own o_p1
    clear o_p1 q27
    go_wp2_with fail
    refine (kOwn (by omega) r_b).mono ?_; rintro e w28 ⟨A_p2, c_p2, rfl, o_p2, q28⟩
    replace r_a := r_a.next q28
    replace r_b := r_b.next q28
    replace r_c := r_c.next q28
    replace r_p1 := r_p1.next q28
    replace B0 := B0.trans (q28.mono B0.size)
    have r_p2 := rd_own o_p2
    clear o_p2 q28
    go_wp2_with fail
    refine (kAnd H_x.out ⟨by omega, by omega⟩ r_p1 r_p2).mono ?_; rintro e w29 ⟨A_x, c_x, rfl, o_x, q29⟩
    replace r_a := r_a.next q29
    replace r_b := r_b.next q29
    replace r_c := r_c.next q29
    replace r_p1 := r_p1.next q29
    replace r_p2 := r_p2.next q29
    replace B0 := B0.trans (q29.mono B0.size)
    have r_x := rd_own o_x
    clear o_x q29
    go_wp2_with fail
    refine (kOwn (by omega) r_a).mono ?_; rintro e w30 ⟨A_p3, c_p3, rfl, o_p3, q30⟩
    replace r_a := r_a.next q30
    replace r_b := r_b.next q30
    replace r_c := r_c.next q30
    replace r_p1 := r_p1.next q30
    replace r_p2 := r_p2.next q30
    replace r_x := r_x.next q30
    replace B0 := B0.trans (q30.mono B0.size)
    have r_p3 := rd_own o_p3
    clear o_p3 q30
    go_wp2_with fail
    refine (kOwn (by omega) r_b).mono ?_; rintro e w31 ⟨A_p4, c_p4, rfl, o_p4, q31⟩
    replace r_a := r_a.next q31
    replace r_b := r_b.next q31
    replace r_c := r_c.next q31
    replace r_p1 := r_p1.next q31
    replace r_p2 := r_p2.next q31
    replace r_x := r_x.next q31
    replace r_p3 := r_p3.next q31
    replace B0 := B0.trans (q31.mono B0.size)
    have r_p4 := rd_own o_p4
    clear o_p4 q31
    go_wp2_with fail
    refine (kMinus H_m.out ⟨by omega, by omega⟩ r_p3 r_p4).mono ?_; rintro e w32 ⟨A_m, c_m, rfl, o_m, q32⟩
    replace r_a := r_a.next q32
    replace r_b := r_b.next q32
    replace r_c := r_c.next q32
    replace r_p1 := r_p1.next q32
    replace r_p2 := r_p2.next q32
    replace r_x := r_x.next q32
    replace r_p3 := r_p3.next q32
    replace r_p4 := r_p4.next q32
    replace B0 := B0.trans (q32.mono B0.size)
    have r_m := rd_own o_m
    clear o_m q32
    clear r_p1 r_p2 r_p3 r_p4
    go_wp2_with fail
    refine (kAnd H_z1.out ⟨by omega, by omega⟩ r_x r_m).mono ?_; rintro e w33 ⟨A_q1, c_q1, rfl, o_q1, q33⟩
    replace r_a := r_a.next q33
    replace r_b := r_b.next q33
    replace r_c := r_c.next q33
    replace r_x := r_x.next q33
    replace r_m := r_m.next q33
    replace B0 := B0.trans (q33.mono B0.size)
    have r_q1 := rd_own o_q1
    clear o_q1 q33
    clear r_q1
    go_wp2_with fail
    refine (kOr H_f2.out ⟨by omega, by omega⟩ r_x r_m).mono ?_; rintro e w34 ⟨A_q1, c_q1, rfl, o_q1, q34⟩
    replace r_a := r_a.next q34
    replace r_b := r_b.next q34
    replace r_c := r_c.next q34
    replace r_x := r_x.next q34
    replace r_m := r_m.next q34
    replace B0 := B0.trans (q34.mono B0.size)
    have r_q1 := rd_own o_q1
    clear o_q1 q34
    go_wp2_with fail
    refine (kOf H_f.out (by omega) r_a).mono ?_; rintro e w35 ⟨A_q2, c_q2, rfl, o_q2, q35⟩
    replace r_a := r_a.next q35
    replace r_b := r_b.next q35
    replace r_c := r_c.next q35
    replace r_x := r_x.next q35
    replace r_m := r_m.next q35
    replace r_q1 := r_q1.next q35
    replace B0 := B0.trans (q35.mono B0.size)
    have r_q2 := rd_own o_q2
    clear o_q2 q35
    go_wp2_with fail
    refine (kEqual (by omega) r_q1 r_q2).mono ?_; rintro e w36 ⟨rfl, q36⟩
    replace r_a := r_a.next q36
    replace r_b := r_b.next q36
    replace r_c := r_c.next q36
    replace r_x := r_x.next q36
    replace r_m := r_m.next q36
    replace r_q1 := r_q1.next q36
    replace r_q2 := r_q2.next q36
    replace B0 := B0.trans (q36.mono B0.size)
    clear q36
    clear r_q1 r_q2
    go_wp2_with fail
    refine (kOwn (by omega) r_b).mono ?_; rintro e w37 ⟨A_p1, c_p1, rfl, o_p1, q37⟩
    replace r_a := r_a.next q37
    replace r_b := r_b.next q37
    replace r_c := r_c.next q37
    replace r_x := r_x.next q37
    replace r_m := r_m.next q37
    replace B0 := B0.trans (q37.mono B0.size)
    have r_p1 := rd_own o_p1
    clear o_p1 q37
    go_wp2_with fail
    refine (kAnd H_z2.out ⟨by omega, by omega⟩ r_m r_p1).mono ?_; rintro e w38 ⟨A_q1, c_q1, rfl, o_q1, q38⟩
    replace r_a := r_a.next q38
    replace r_b := r_b.next q38
    replace r_c := r_c.next q38
    replace r_x := r_x.next q38
    replace r_m := r_m.next q38
    replace r_p1 := r_p1.next q38
    replace B0 := B0.trans (q38.mono B0.size)
    have r_q1 := rd_own o_q1
    clear o_q1 q38
    clear r_p1 r_q1
    go_wp2_with fail
    refine (kOwn (by omega) r_a).mono ?_; rintro e w39 ⟨A_p1, c_p1, rfl, o_p1, q39⟩
    replace r_a := r_a.next q39
    replace r_b := r_b.next q39
    replace r_c := r_c.next q39
    replace r_x := r_x.next q39
    replace r_m := r_m.next q39
    replace B0 := B0.trans (q39.mono B0.size)
    have r_p1 := rd_own o_p1
    clear o_p1 q39
    go_wp2_with fail
    refine (kOwn (by omega) r_a).mono ?_; rintro e w40 ⟨A_p2, c_p2, rfl, o_p2, q40⟩
    replace r_a := r_a.next q40
    replace r_b := r_b.next q40
    replace r_c := r_c.next q40
    replace r_x := r_x.next q40
    replace r_m := r_m.next q40
    replace r_p1 := r_p1.next q40
    replace B0 := B0.trans (q40.mono B0.size)
    have r_p2 := rd_own o_p2
    clear o_p2 q40
    go_wp2_with fail
    refine (kMinus H_z3.out ⟨by omega, by omega⟩ r_p1 r_p2).mono ?_; rintro e w41 ⟨A_q1, c_q1, rfl, o_q1, q41⟩
    replace r_a := r_a.next q41
    replace r_b := r_b.next q41
    replace r_c := r_c.next q41
    replace r_x := r_x.next q41
    replace r_m := r_m.next q41
    replace r_p1 := r_p1.next q41
    replace r_p2 := r_p2.next q41
    replace B0 := B0.trans (q41.mono B0.size)
    have r_q1 := rd_own o_q1
    clear o_q1 q41
    clear r_p1 r_p2 r_q1
    go_wp2_with fail
    refine (kOwn (by omega) r_a).mono ?_; rintro e w42 ⟨A_p1, c_p1, rfl, o_p1, q42⟩
    replace r_a := r_a.next q42
    replace r_b := r_b.next q42
    replace r_c := r_c.next q42
    replace r_x := r_x.next q42
    replace r_m := r_m.next q42
    replace B0 := B0.trans (q42.mono B0.size)
    have r_p1 := rd_own o_p1
    clear o_p1 q42
    go_wp2_with fail
    refine (kOwn (by omega) r_b).mono ?_; rintro e w43 ⟨A_p2, c_p2, rfl, o_p2, q43⟩
    replace r_a := r_a.next q43
    replace r_b := r_b.next q43
    replace r_c := r_c.next q43
    replace r_x := r_x.next q43
    replace r_m := r_m.next q43
    replace r_p1 := r_p1.next q43
    replace B0 := B0.trans (q43.mono B0.size)
    have r_p2 := rd_own o_p2
    clear o_p2 q43
    go_wp2_with fail
    refine (kOwn (by omega) r_c).mono ?_; rintro e w44 ⟨A_p3, c_p3, rfl, o_p3, q44⟩
    replace r_a := r_a.next q44
    replace r_b := r_b.next q44
    replace r_c := r_c.next q44
    replace r_x := r_x.next q44
    replace r_m := r_m.next q44
    replace r_p1 := r_p1.next q44
    replace r_p2 := r_p2.next q44
    replace B0 := B0.trans (q44.mono B0.size)
    have r_p3 := rd_own o_p3
    clear o_p3 q44
    go_wp2_with fail
    refine (kOr H_bc.out ⟨by omega, by omega⟩ r_p2 r_p3).mono ?_; rintro e w45 ⟨A_q1, c_q1, rfl, o_q1, q45⟩
    replace r_a := r_a.next q45
    replace r_b := r_b.next q45
    replace r_c := r_c.next q45
    replace r_x := r_x.next q45
    replace r_m := r_m.next q45
    replace r_p1 := r_p1.next q45
    replace r_p2 := r_p2.next q45
    replace r_p3 := r_p3.next q45
    replace B0 := B0.trans (q45.mono B0.size)
    have r_q1 := rd_own o_q1
    clear o_q1 q45
    go_wp2_with fail
    refine (kMinus H_d.out ⟨by omega, by omega⟩ r_p1 r_q1).mono ?_; rintro e w46 ⟨A_q2, c_q2, rfl, o_q2, q46⟩
    replace r_a := r_a.next q46
    replace r_b := r_b.next q46
    replace r_c := r_c.next q46
    replace r_x := r_x.next q46
    replace r_m := r_m.next q46
    replace r_p1 := r_p1.next q46
    replace r_p2 := r_p2.next q46
    replace r_p3 := r_p3.next q46
    replace r_q1 := r_q1.next q46
    replace B0 := B0.trans (q46.mono B0.size)
    have r_q2 := rd_own o_q2
    clear o_q2 q46
    go_wp2_with fail
    refine (kOwn (by omega) r_a).mono ?_; rintro e w47 ⟨A_p4, c_p4, rfl, o_p4, q47⟩
    replace r_a := r_a.next q47
    replace r_b := r_b.next q47
    replace r_c := r_c.next q47
    replace r_x := r_x.next q47
    replace r_m := r_m.next q47
    replace r_p1 := r_p1.next q47
    replace r_p2 := r_p2.next q47
    replace r_p3 := r_p3.next q47
    replace r_q1 := r_q1.next q47
    replace r_q2 := r_q2.next q47
    replace B0 := B0.trans (q47.mono B0.size)
    have r_p4 := rd_own o_p4
    clear o_p4 q47
    go_wp2_with fail
    refine (kOwn (by omega) r_b).mono ?_; rintro e w48 ⟨A_p5, c_p5, rfl, o_p5, q48⟩
    replace r_a := r_a.next q48
    replace r_b := r_b.next q48
    replace r_c := r_c.next q48
    replace r_x := r_x.next q48
    replace r_m := r_m.next q48
    replace r_p1 := r_p1.next q48
    replace r_p2 := r_p2.next q48
    replace r_p3 := r_p3.next q48
    replace r_q1 := r_q1.next q48
    replace r_q2 := r_q2.next q48
    replace r_p4 := r_p4.next q48
    replace B0 := B0.trans (q48.mono B0.size)
    have r_p5 := rd_own o_p5
    clear o_p5 q48
    go_wp2_with fail
    refine (kMinus H_m.out ⟨by omega, by omega⟩ r_p4 r_p5).mono ?_; rintro e w49 ⟨A_q3, c_q3, rfl, o_q3, q49⟩
    replace r_a := r_a.next q49
    replace r_b := r_b.next q49
    replace r_c := r_c.next q49
    replace r_x := r_x.next q49
    replace r_m := r_m.next q49
    replace r_p1 := r_p1.next q49
    replace r_p2 := r_p2.next q49
    replace r_p3 := r_p3.next q49
    replace r_q1 := r_q1.next q49
    replace r_q2 := r_q2.next q49
    replace r_p4 := r_p4.next q49
    replace r_p5 := r_p5.next q49
    replace B0 := B0.trans (q49.mono B0.size)
    have r_q3 := rd_own o_q3
    clear o_q3 q49
    go_wp2_with fail
    refine (kOwn (by omega) r_c).mono ?_; rintro e w50 ⟨A_p6, c_p6, rfl, o_p6, q50⟩
    replace r_a := r_a.next q50
    replace r_b := r_b.next q50
    replace r_c := r_c.next q50
    replace r_x := r_x.next q50
    replace r_m := r_m.next q50
    replace r_p1 := r_p1.next q50
    replace r_p2 := r_p2.next q50
    replace r_p3 := r_p3.next q50
    replace r_q1 := r_q1.next q50
    replace r_q2 := r_q2.next q50
    replace r_p4 := r_p4.next q50
    replace r_p5 := r_p5.next q50
    replace r_q3 := r_q3.next q50
    replace B0 := B0.trans (q50.mono B0.size)
    have r_p6 := rd_own o_p6
    clear o_p6 q50
    go_wp2_with fail
    refine (kMinus H_d2.out ⟨by omega, by omega⟩ r_q3 r_p6).mono ?_; rintro e w51 ⟨A_q4, c_q4, rfl, o_q4, q51⟩
    replace r_a := r_a.next q51
    replace r_b := r_b.next q51
    replace r_c := r_c.next q51
    replace r_x := r_x.next q51
    replace r_m := r_m.next q51
    replace r_p1 := r_p1.next q51
    replace r_p2 := r_p2.next q51
    replace r_p3 := r_p3.next q51
    replace r_q1 := r_q1.next q51
    replace r_q2 := r_q2.next q51
    replace r_p4 := r_p4.next q51
    replace r_p5 := r_p5.next q51
    replace r_q3 := r_q3.next q51
    replace r_p6 := r_p6.next q51
    replace B0 := B0.trans (q51.mono B0.size)
    have r_q4 := rd_own o_q4
    clear o_q4 q51
    go_wp2_with fail
    refine (kEqual (by omega) r_q2 r_q4).mono ?_; rintro e w52 ⟨rfl, q52⟩
    replace r_a := r_a.next q52
    replace r_b := r_b.next q52
    replace r_c := r_c.next q52
    replace r_x := r_x.next q52
    replace r_m := r_m.next q52
    replace r_p1 := r_p1.next q52
    replace r_p2 := r_p2.next q52
    replace r_p3 := r_p3.next q52
    replace r_q1 := r_q1.next q52
    replace r_q2 := r_q2.next q52
    replace r_p4 := r_p4.next q52
    replace r_p5 := r_p5.next q52
    replace r_q3 := r_q3.next q52
    replace r_p6 := r_p6.next q52
    replace r_q4 := r_q4.next q52
    replace B0 := B0.trans (q52.mono B0.size)
    clear q52
    go_wp2_with fail
    refine (wakes_any _).mono ?_; rintro e w53 ⟨rfl, q53⟩
    replace r_a := r_a.next q53
    replace r_b := r_b.next q53
    replace r_c := r_c.next q53
    replace r_x := r_x.next q53
    replace r_m := r_m.next q53
    replace r_p1 := r_p1.next q53
    replace r_p2 := r_p2.next q53
    replace r_p3 := r_p3.next q53
    replace r_q1 := r_q1.next q53
    replace r_q2 := r_q2.next q53
    replace r_p4 := r_p4.next q53
    replace r_p5 := r_p5.next q53
    replace r_q3 := r_q3.next q53
    replace r_p6 := r_p6.next q53
    replace r_q4 := r_q4.next q53
    replace B0 := B0.trans (q53.mono B0.size)
    clear q53
    go_wp2_with fail
    go_ret
    exact ⟨rfl, B0⟩
end Go.Proofs.Ytiohdacbnigpkaa

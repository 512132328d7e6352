/- The walk of the law SpansTells: it answers true. No condition. Printed by gen_setl5.py. -/
import Derived.Test.YtiohdacbnigpkaaSetL3
namespace Go.Proofs.Ytiohdacbnigpkaa
open Go.RowKit Go.Maps
set_option linter.unusedVariables false
set_option linter.unusedSimpArgs false

theorem decT (l : List S2) : true = decide (l = l) := (decide_eq_true rfl).symm
theorem wholeR_len (n : Int) (a : List S2) : (wholeR (oS n) n a).1.length ≤ a.length := by
  unfold wholeR
  split
  · exact outL_len n a
  · simp
theorem inR_len (n : Int) (a : List S2) : (inR n a).1.length ≤ a.length := by
  unfold inR
  split
  · exact inL_len n a
  · simp
set_option maxHeartbeats 4000000 in
set_option maxRecDepth 100000 in
theorem spansTells_walk (A : Option Addr) (ca : Nat) (a : List S2) (A' : Option Addr) (cb : Nat) (b : List S2) (n t : Int) (w : World) (r_a : RdS w A a) (s_a : ∀ x ∈ a, sok x) (r_b : RdS w A' b) (s_b : ∀ x ∈ b, sok x) (hn : -9223372036854775808 ≤ n ∧ n ≤ 9223372036854775807) (ht : -9223372036854775808 ≤ t ∧ t ≤ 9223372036854775807) :
    Calls Try.prog 5 #[.slice A a.length ca, .slice A' b.length cb, .int .i64 n, .int .i64 t] w fun e w' => e = .returned (.bool true) ∧ Below w.heap.size w w' := by
  clear s_a s_b hn ht
  have B0 : Below w.heap.size w w := Below.refl _ _
  by_cases hgr : 40 < a.length ∨ 40 < b.length
  case pos =>
    have KG := Lib.hid (fun (w' : World) (h : Rd w' (w.heap.size + 1) (some ⟨w.heap.size, 0, none⟩) [.slice A a.length ca, .slice A' b.length cb]) => show Calls Try.prog 8 #[.slice (some ⟨w.heap.size, 0, none⟩) 2 2] w' _ from great_any (w.heap.size + 1) _ 2 [(A, a.length, ca), (A', b.length, cb)] true (by simp; omega) w' h (by simp))
    clear hgr
    go_enter Try.func5, Try.ntmps5
    go_wp2_with fail
    obtain ⟨w1, hw1⟩ : ∃ w', w' = (w.alloc (.cells #[.slice A a.length ca, .slice A' b.length cb] 22)) := ⟨_, rfl⟩
    have q1 : Below w.heap.size w w1 := by rw [hw1]; exact ((Below.refl _ w).alloc (Nat.le_refl _) _)
    have r_sl : Rd w1 (w.heap.size + 1) (some ⟨w.heap.size, 0, none⟩) [.slice A a.length ca, .slice A' b.length cb] := by rw [hw1]; exact rd_arr w [.slice A a.length ca, .slice A' b.length cb] _ _ _ rfl (by omega)
    rw [← hw1]
    replace r_a := r_a.next q1
    replace r_b := r_b.next q1
    replace B0 := B0.trans (q1.mono B0.size)
    clear hw1 q1
    refine (KG.out _ r_sl).mono ?_; rintro e wq ⟨rfl, hq⟩; subst hq
    go_wp2_with fail
    refine (wakes_any _).mono ?_; rintro e w2 ⟨rfl, q2⟩
    replace r_a := r_a.next q2
    replace r_b := r_b.next q2
    replace B0 := B0.trans (q2.mono B0.size)
    clear q2
    go_wp2_with fail
    go_ret
    exact ⟨rfl, B0⟩
  case neg =>
    have KG := Lib.hid (fun (w' : World) (h : Rd w' (w.heap.size + 1) (some ⟨w.heap.size, 0, none⟩) [.slice A a.length ca, .slice A' b.length cb]) => show Calls Try.prog 8 #[.slice (some ⟨w.heap.size, 0, none⟩) 2 2] w' _ from great_any (w.heap.size + 1) _ 2 [(A, a.length, ca), (A', b.length, cb)] false (by simp; omega) w' h (by simp))
    have l_a : a.length ≤ 40 := by omega
    have l_b : b.length ≤ 40 := by omega
    clear hgr
    have L_f := ofL_len a
    have L_fb := ofL_len b
    have L_o := ofL_len (a ++ b)
    have L_x := andR_len a b
    have L_m := minR_len a b
    simp only [List.length_append] at L_o
    have L_u := wholeR_len n a
    have L_v := inR_len n a
    obtain ⟨u, ze, hu⟩ : ∃ u ze, wholeR (oS n) n a = (u, ze) := ⟨_, _, rfl⟩
    obtain ⟨v, zf, hv⟩ : ∃ v zf, inR n a = (v, zf) := ⟨_, _, rfl⟩
    rw [hu] at L_u; rw [hv] at L_v; dsimp only at L_u L_v
    obtain ⟨sm, hsm⟩ : ∃ q, q = decide (ofL a = ofL b) := ⟨_, rfl⟩
    have E_sm := hsm
    obtain ⟨f, hf⟩ : ∃ r, r = ofL a := ⟨_, rfl⟩
    rw [← hf] at L_f E_sm
    have H_f := Lib.hid hf
    obtain ⟨fb, hfb⟩ : ∃ r, r = ofL b := ⟨_, rfl⟩
    rw [← hfb] at L_fb E_sm
    have H_fb := Lib.hid hfb
    obtain ⟨o, ho⟩ : ∃ r, r = ofL (a ++ b) := ⟨_, rfl⟩
    rw [← ho] at L_o
    have H_o := Lib.hid ho
    obtain ⟨x, hx⟩ : ∃ r, r = andR a b := ⟨_, rfl⟩
    rw [← hx] at L_x
    have H_x := Lib.hid hx
    obtain ⟨m, hm⟩ : ∃ r, r = minR a b := ⟨_, rfl⟩
    rw [← hm] at L_m
    have H_m := Lib.hid hm
    obtain ⟨hs, hhs⟩ : ∃ q, q = hasB a t := ⟨_, rfl⟩
    have H_sm := Lib.hid hsm
    have H_sm2 := Lib.hid E_sm
    have H_u := Lib.hid hu
    have H_v := Lib.hid hv
    have H_hs := Lib.hid hhs
    clear hf hfb ho hx hm hsm E_sm hu hv hhs
    go_enter Try.func5, Try.ntmps5
    go_wp2_with fail
    obtain ⟨w1, hw1⟩ : ∃ w', w' = (w.alloc (.cells #[.slice A a.length ca, .slice A' b.length cb] 22)) := ⟨_, rfl⟩
    have q1 : Below w.heap.size w w1 := by rw [hw1]; exact ((Below.refl _ w).alloc (Nat.le_refl _) _)
    have r_sl : Rd w1 (w.heap.size + 1) (some ⟨w.heap.size, 0, none⟩) [.slice A a.length ca, .slice A' b.length cb] := by rw [hw1]; exact rd_arr w [.slice A a.length ca, .slice A' b.length cb] _ _ _ rfl (by omega)
    rw [← hw1]
    replace r_a := r_a.next q1
    replace r_b := r_b.next q1
    replace B0 := B0.trans (q1.mono B0.size)
    clear hw1 q1
    refine (KG.out _ r_sl).mono ?_; rintro e wq ⟨rfl, hq⟩; subst hq
    clear r_sl KG
    go_wp2_with fail
    refine (kOwn (by omega) r_a).mono ?_; rintro e w2 ⟨A_p, c_p, rfl, o_p, q2⟩
    replace r_a := r_a.next q2
    replace r_b := r_b.next q2
    replace B0 := B0.trans (q2.mono B0.size)
    have r_p := rd_own o_p
    clear o_p q2
    go_wp2_with fail
    refine (kOwn (by omega) r_b).mono ?_; rintro e w3 ⟨A_q, c_q, rfl, o_q, q3⟩
    replace r_a := r_a.next q3
    replace r_b := r_b.next q3
    replace r_p := r_p.next q3
    replace B0 := B0.trans (q3.mono B0.size)
    have r_q := rd_own o_q
    clear o_q q3
    go_wp2_with fail
    refine (kOut H_u.out (by omega) r_p).mono ?_; rintro e w4 ⟨A_x1, c_x1, rfl, o_x1, q4⟩
    replace r_a := r_a.next q4
    replace r_b := r_b.next q4
    replace r_p := r_p.next q4
    replace r_q := r_q.next q4
    replace B0 := B0.trans (q4.mono B0.size)
    have r_x1 := rd_own o_x1
    clear o_x1 q4
    go_wp2_with fail
    refine (kIn H_v.out (by omega) r_p).mono ?_; rintro e w5 ⟨A_y1, c_y1, rfl, o_y1, q5⟩
    replace r_a := r_a.next q5
    replace r_b := r_b.next q5
    replace r_p := r_p.next q5
    replace r_q := r_q.next q5
    replace r_x1 := r_x1.next q5
    replace B0 := B0.trans (q5.mono B0.size)
    have r_y1 := rd_own o_y1
    clear o_y1 q5
    go_wp2_with fail
    refine (krOut H_u.out (by omega) r_a).mono ?_; rintro e w6 ⟨A_x2, c_x2, rfl, o_x2, q6⟩
    replace r_a := r_a.next q6
    replace r_b := r_b.next q6
    replace r_p := r_p.next q6
    replace r_q := r_q.next q6
    replace r_x1 := r_x1.next q6
    replace r_y1 := r_y1.next q6
    replace B0 := B0.trans (q6.mono B0.size)
    have r_x2 := rd_own o_x2
    clear o_x2 q6
    go_wp2_with fail
    refine (krIn H_v.out (by omega) r_a).mono ?_; rintro e w7 ⟨A_y2, c_y2, rfl, o_y2, q7⟩
    replace r_a := r_a.next q7
    replace r_b := r_b.next q7
    replace r_p := r_p.next q7
    replace r_q := r_q.next q7
    replace r_x1 := r_x1.next q7
    replace r_y1 := r_y1.next q7
    replace r_x2 := r_x2.next q7
    replace B0 := B0.trans (q7.mono B0.size)
    have r_y2 := rd_own o_y2
    clear o_y2 q7
    go_wp2_with fail
    refine (kOf H_f.out (by omega) r_p).mono ?_; rintro e w8 ⟨A_q1, c_q1, rfl, o_q1, q8⟩
    replace r_a := r_a.next q8
    replace r_b := r_b.next q8
    replace r_p := r_p.next q8
    replace r_q := r_q.next q8
    replace r_x1 := r_x1.next q8
    replace r_y1 := r_y1.next q8
    replace r_x2 := r_x2.next q8
    replace r_y2 := r_y2.next q8
    replace B0 := B0.trans (q8.mono B0.size)
    have r_q1 := rd_own o_q1
    clear o_q1 q8
    go_wp2_with fail
    refine (krOf H_f.out (by omega) r_a).mono ?_; rintro e w9 ⟨A_q2, c_q2, rfl, o_q2, q9⟩
    replace r_a := r_a.next q9
    replace r_b := r_b.next q9
    replace r_p := r_p.next q9
    replace r_q := r_q.next q9
    replace r_x1 := r_x1.next q9
    replace r_y1 := r_y1.next q9
    replace r_x2 := r_x2.next q9
    replace r_y2 := r_y2.next q9
    replace r_q1 := r_q1.next q9
    replace B0 := B0.trans (q9.mono B0.size)
    have r_q2 := rd_own o_q2
    clear o_q2 q9
    go_wp2_with fail
    refine (krSame (decT _) (by omega) r_q1 r_q2).mono ?_; rintro e w10 ⟨rfl, q10⟩
    replace r_a := r_a.next q10
    replace r_b := r_b.next q10
    replace r_p := r_p.next q10
    replace r_q := r_q.next q10
    replace r_x1 := r_x1.next q10
    replace r_y1 := r_y1.next q10
    replace r_x2 := r_x2.next q10
    replace r_y2 := r_y2.next q10
    replace r_q1 := r_q1.next q10
    replace r_q2 := r_q2.next q10
    replace B0 := B0.trans (q10.mono B0.size)
    clear q10
    clear r_q1 r_q2
    go_wp2_with fail
    refine (kOr H_o.out ⟨by omega, by omega⟩ r_p r_q).mono ?_; rintro e w11 ⟨A_q1, c_q1, rfl, o_q1, q11⟩
    replace r_a := r_a.next q11
    replace r_b := r_b.next q11
    replace r_p := r_p.next q11
    replace r_q := r_q.next q11
    replace r_x1 := r_x1.next q11
    replace r_y1 := r_y1.next q11
    replace r_x2 := r_x2.next q11
    replace r_y2 := r_y2.next q11
    replace B0 := B0.trans (q11.mono B0.size)
    have r_q1 := rd_own o_q1
    clear o_q1 q11
    go_wp2_with fail
    refine (krOr H_o.out ⟨by omega, by omega⟩ r_a r_b).mono ?_; rintro e w12 ⟨A_q2, c_q2, rfl, o_q2, q12⟩
    replace r_a := r_a.next q12
    replace r_b := r_b.next q12
    replace r_p := r_p.next q12
    replace r_q := r_q.next q12
    replace r_x1 := r_x1.next q12
    replace r_y1 := r_y1.next q12
    replace r_x2 := r_x2.next q12
    replace r_y2 := r_y2.next q12
    replace r_q1 := r_q1.next q12
    replace B0 := B0.trans (q12.mono B0.size)
    have r_q2 := rd_own o_q2
    clear o_q2 q12
    go_wp2_with fail
    refine (krSame (decT _) (by omega) r_q1 r_q2).mono ?_; rintro e w13 ⟨rfl, q13⟩
    replace r_a := r_a.next q13
    replace r_b := r_b.next q13
    replace r_p := r_p.next q13
    replace r_q := r_q.next q13
    replace r_x1 := r_x1.next q13
    replace r_y1 := r_y1.next q13
    replace r_x2 := r_x2.next q13
    replace r_y2 := r_y2.next q13
    replace r_q1 := r_q1.next q13
    replace r_q2 := r_q2.next q13
    replace B0 := B0.trans (q13.mono B0.size)
    clear q13
    clear r_q1 r_q2
    go_wp2_with fail
    refine (kAnd H_x.out ⟨by omega, by omega⟩ r_p r_q).mono ?_; rintro e w14 ⟨A_q1, c_q1, rfl, o_q1, q14⟩
    replace r_a := r_a.next q14
    replace r_b := r_b.next q14
    replace r_p := r_p.next q14
    replace r_q := r_q.next q14
    replace r_x1 := r_x1.next q14
    replace r_y1 := r_y1.next q14
    replace r_x2 := r_x2.next q14
    replace r_y2 := r_y2.next q14
    replace B0 := B0.trans (q14.mono B0.size)
    have r_q1 := rd_own o_q1
    clear o_q1 q14
    go_wp2_with fail
    refine (krAnd H_x.out ⟨by omega, by omega⟩ r_a r_b).mono ?_; rintro e w15 ⟨A_q2, c_q2, rfl, o_q2, q15⟩
    replace r_a := r_a.next q15
    replace r_b := r_b.next q15
    replace r_p := r_p.next q15
    replace r_q := r_q.next q15
    replace r_x1 := r_x1.next q15
    replace r_y1 := r_y1.next q15
    replace r_x2 := r_x2.next q15
    replace r_y2 := r_y2.next q15
    replace r_q1 := r_q1.next q15
    replace B0 := B0.trans (q15.mono B0.size)
    have r_q2 := rd_own o_q2
    clear o_q2 q15
    go_wp2_with fail
    refine (krSame (decT _) (by omega) r_q1 r_q2).mono ?_; rintro e w16 ⟨rfl, q16⟩
    replace r_a := r_a.next q16
    replace r_b := r_b.next q16
    replace r_p := r_p.next q16
    replace r_q := r_q.next q16
    replace r_x1 := r_x1.next q16
    replace r_y1 := r_y1.next q16
    replace r_x2 := r_x2.next q16
    replace r_y2 := r_y2.next q16
    replace r_q1 := r_q1.next q16
    replace r_q2 := r_q2.next q16
    replace B0 := B0.trans (q16.mono B0.size)
    clear q16
    clear r_q1 r_q2
    go_wp2_with fail
    refine (kMinus H_m.out ⟨by omega, by omega⟩ r_p r_q).mono ?_; rintro e w17 ⟨A_q1, c_q1, rfl, o_q1, q17⟩
    replace r_a := r_a.next q17
    replace r_b := r_b.next q17
    replace r_p := r_p.next q17
    replace r_q := r_q.next q17
    replace r_x1 := r_x1.next q17
    replace r_y1 := r_y1.next q17
    replace r_x2 := r_x2.next q17
    replace r_y2 := r_y2.next q17
    replace B0 := B0.trans (q17.mono B0.size)
    have r_q1 := rd_own o_q1
    clear o_q1 q17
    go_wp2_with fail
    refine (krMinus H_m.out ⟨by omega, by omega⟩ r_a r_b).mono ?_; rintro e w18 ⟨A_q2, c_q2, rfl, o_q2, q18⟩
    replace r_a := r_a.next q18
    replace r_b := r_b.next q18
    replace r_p := r_p.next q18
    replace r_q := r_q.next q18
    replace r_x1 := r_x1.next q18
    replace r_y1 := r_y1.next q18
    replace r_x2 := r_x2.next q18
    replace r_y2 := r_y2.next q18
    replace r_q1 := r_q1.next q18
    replace B0 := B0.trans (q18.mono B0.size)
    have r_q2 := rd_own o_q2
    clear o_q2 q18
    go_wp2_with fail
    refine (krSame (decT _) (by omega) r_q1 r_q2).mono ?_; rintro e w19 ⟨rfl, q19⟩
    replace r_a := r_a.next q19
    replace r_b := r_b.next q19
    replace r_p := r_p.next q19
    replace r_q := r_q.next q19
    replace r_x1 := r_x1.next q19
    replace r_y1 := r_y1.next q19
    replace r_x2 := r_x2.next q19
    replace r_y2 := r_y2.next q19
    replace r_q1 := r_q1.next q19
    replace r_q2 := r_q2.next q19
    replace B0 := B0.trans (q19.mono B0.size)
    clear q19
    clear r_q1 r_q2
    go_wp2_with fail
    refine (krSame (decT _) (by omega) r_x1 r_x2).mono ?_; rintro e w20 ⟨rfl, q20⟩
    replace r_a := r_a.next q20
    replace r_b := r_b.next q20
    replace r_p := r_p.next q20
    replace r_q := r_q.next q20
    replace r_x1 := r_x1.next q20
    replace r_y1 := r_y1.next q20
    replace r_x2 := r_x2.next q20
    replace r_y2 := r_y2.next q20
    replace B0 := B0.trans (q20.mono B0.size)
    clear q20
    go_wp2_with fail
    refine (krSame (decT _) (by omega) r_y1 r_y2).mono ?_; rintro e w21 ⟨rfl, q21⟩
    replace r_a := r_a.next q21
    replace r_b := r_b.next q21
    replace r_p := r_p.next q21
    replace r_q := r_q.next q21
    replace r_x1 := r_x1.next q21
    replace r_y1 := r_y1.next q21
    replace r_x2 := r_x2.next q21
    replace r_y2 := r_y2.next q21
    replace B0 := B0.trans (q21.mono B0.size)
    clear q21
    clear r_x1 r_x2 r_y1 r_y2
    go_wp2_with fail
    refine (kHas H_hs.out (by omega) r_p).mono ?_; rintro e w22 ⟨rfl, q22⟩
    replace r_a := r_a.next q22
    replace r_b := r_b.next q22
    replace r_p := r_p.next q22
    replace r_q := r_q.next q22
    replace B0 := B0.trans (q22.mono B0.size)
    clear q22
    go_wp2_with fail
    refine (krHas H_hs.out (by omega) r_a).mono ?_; rintro e wq ⟨rfl, hq⟩; subst hq
    go_wp2_with fail
    refine (kSame H_sm.out ⟨by omega, by omega⟩ r_p r_q).mono ?_; rintro e w23 ⟨rfl, q23⟩
    replace r_a := r_a.next q23
    replace r_b := r_b.next q23
    replace r_p := r_p.next q23
    replace r_q := r_q.next q23
    replace B0 := B0.trans (q23.mono B0.size)
    clear q23
    go_wp2_with fail
    refine (krOf H_f.out (by omega) r_a).mono ?_; rintro e w24 ⟨A_q1, c_q1, rfl, o_q1, q24⟩
    replace r_a := r_a.next q24
    replace r_b := r_b.next q24
    replace r_p := r_p.next q24
    replace r_q := r_q.next q24
    replace B0 := B0.trans (q24.mono B0.size)
    have r_q1 := rd_own o_q1
    clear o_q1 q24
    go_wp2_with fail
    refine (krOf H_fb.out (by omega) r_b).mono ?_; rintro e w25 ⟨A_q2, c_q2, rfl, o_q2, q25⟩
    replace r_a := r_a.next q25
    replace r_b := r_b.next q25
    replace r_p := r_p.next q25
    replace r_q := r_q.next q25
    replace r_q1 := r_q1.next q25
    replace B0 := B0.trans (q25.mono B0.size)
    have r_q2 := rd_own o_q2
    clear o_q2 q25
    go_wp2_with fail
    refine (krSame H_sm2.out (by omega) r_q1 r_q2).mono ?_; rintro e w26 ⟨rfl, q26⟩
    replace r_a := r_a.next q26
    replace r_b := r_b.next q26
    replace r_p := r_p.next q26
    replace r_q := r_q.next q26
    replace r_q1 := r_q1.next q26
    replace r_q2 := r_q2.next q26
    replace B0 := B0.trans (q26.mono B0.size)
    clear q26
    clear r_q1 r_q2
    go_wp2_with fail
    refine (krSame (decT _) (by omega) r_p r_a).mono ?_; rintro e w27 ⟨rfl, q27⟩
    replace r_a := r_a.next q27
    replace r_b := r_b.next q27
    replace r_p := r_p.next q27
    replace r_q := r_q.next q27
    replace B0 := B0.trans (q27.mono B0.size)
    clear q27
    go_wp2_with fail
    refine (krSame (decT _) (by omega) r_q r_b).mono ?_; rintro e w28 ⟨rfl, q28⟩
    replace r_a := r_a.next q28
    replace r_b := r_b.next q28
    replace r_p := r_p.next q28
    replace r_q := r_q.next q28
    replace B0 := B0.trans (q28.mono B0.size)
    clear q28
    go_wp2_with fail
    refine (wakes_any _).mono ?_; rintro e w29 ⟨rfl, q29⟩
    replace r_a := r_a.next q29
    replace r_b := r_b.next q29
    replace r_p := r_p.next q29
    replace r_q := r_q.next q29
    replace B0 := B0.trans (q29.mono B0.size)
    clear q29
    go_wp2_with fail
    go_ret
    exact ⟨rfl, B0⟩
end Go.Proofs.Ytiohdacbnigpkaa

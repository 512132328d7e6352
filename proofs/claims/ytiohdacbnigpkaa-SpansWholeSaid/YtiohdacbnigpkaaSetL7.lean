/- The walk of the law SpansWhole: it answers true. No condition. Printed by gen_setl7.py. -/
import Derived.Test.YtiohdacbnigpkaaSetL3
import Derived.Test.YtiohdacbnigpkaaSetX
namespace Go.Proofs.Ytiohdacbnigpkaa
open Go.RowKit Go.Maps
set_option linter.unusedVariables false
set_option linter.unusedSimpArgs false

set_option maxHeartbeats 8000000 in
set_option maxRecDepth 100000 in
theorem spansWhole_walk (A : Option Addr) (ca : Nat) (a : List S2) (n t : Int) (w : World) (r_a : RdS w A a) (s_a : ∀ x ∈ a, sok x) (h_n : -9223372036854775808 ≤ n ∧ n ≤ 9223372036854775807) (h_t : -9223372036854775808 ≤ t ∧ t ≤ 9223372036854775807) :
    Calls Try.prog 3 #[.slice A a.length ca, .int .i64 n, .int .i64 t] w fun e w' => e = .returned (.bool true) ∧ Below w.heap.size w w' := by
  clear s_a h_n h_t
  have B0 : Below w.heap.size w w := Below.refl _ _
  by_cases hgr : 40 < a.length
  case pos =>
    have KG := Lib.hid (fun (w' : World) (h : Rd w' (w.heap.size + 1) (some ⟨w.heap.size, 0, none⟩) [.slice A a.length ca]) => show Calls Try.prog 8 #[.slice (some ⟨w.heap.size, 0, none⟩) 1 1] w' _ from great_any (w.heap.size + 1) _ 1 [(A, a.length, ca)] true (by simp; omega) w' h (by simp))
    clear hgr
    go_enter Try.func3, Try.ntmps3
    go_wp2_with fail
    obtain ⟨w1, hw1⟩ : ∃ w', w' = (w.alloc (.cells #[.slice A a.length ca] 22)) := ⟨_, rfl⟩
    have q1 : Below w.heap.size w w1 := by rw [hw1]; exact ((Below.refl _ w).alloc (Nat.le_refl _) _)
    have r_sl : Rd w1 (w.heap.size + 1) (some ⟨w.heap.size, 0, none⟩) [.slice A a.length ca] := by rw [hw1]; exact rd_arr w [.slice A a.length ca] _ _ _ rfl (by omega)
    rw [← hw1]
    replace r_a := r_a.next q1
    replace B0 := B0.trans (q1.mono B0.size)
    clear hw1 q1
    refine (KG.out _ r_sl).mono ?_; rintro e wq ⟨rfl, hq⟩; subst hq
    clear r_sl KG
    go_wp2_with fail
    refine (wakes_any _).mono ?_; rintro e w2 ⟨rfl, q2⟩
    replace r_a := r_a.next q2
    replace B0 := B0.trans (q2.mono B0.size)
    clear q2
    go_wp2_with fail
    go_ret
    exact ⟨rfl, B0⟩
  have KG := Lib.hid (fun (w' : World) (h : Rd w' (w.heap.size + 1) (some ⟨w.heap.size, 0, none⟩) [.slice A a.length ca]) => show Calls Try.prog 8 #[.slice (some ⟨w.heap.size, 0, none⟩) 1 1] w' _ from great_any (w.heap.size + 1) _ 1 [(A, a.length, ca)] false (by simp; omega) w' h (by simp))
  have l_a : a.length ≤ 40 := by omega
  clear hgr
  have KW0 := fun w => width_any n w
  have KT0 := fun w => time_any t w
  by_cases hn : 1 ≤ n ∧ n ≤ 1099511627776
  case neg =>
    rw [decide_eq_false hn] at KW0
    have KW := Lib.hid KW0
    clear KW0 KT0 hn
    go_enter Try.func3, Try.ntmps3
    go_wp2_with fail
    obtain ⟨w1, hw1⟩ : ∃ w', w' = (w.alloc (.cells #[.slice A a.length ca] 22)) := ⟨_, rfl⟩
    have q1 : Below w.heap.size w w1 := by rw [hw1]; exact ((Below.refl _ w).alloc (Nat.le_refl _) _)
    have r_sl : Rd w1 (w.heap.size + 1) (some ⟨w.heap.size, 0, none⟩) [.slice A a.length ca] := by rw [hw1]; exact rd_arr w [.slice A a.length ca] _ _ _ rfl (by omega)
    rw [← hw1]
    replace r_a := r_a.next q1
    replace B0 := B0.trans (q1.mono B0.size)
    clear hw1 q1
    refine (KG.out _ r_sl).mono ?_; rintro e wq ⟨rfl, hq⟩; subst hq
    clear r_sl KG
    go_wp2_with fail
    refine (KW.out _).mono ?_; rintro e wq ⟨rfl, hq⟩; subst hq
    go_wp2_with fail
    refine (wakes_any _).mono ?_; rintro e w2 ⟨rfl, q2⟩
    replace r_a := r_a.next q2
    replace B0 := B0.trans (q2.mono B0.size)
    clear q2
    go_wp2_with fail
    go_ret
    exact ⟨rfl, B0⟩
  rw [decide_eq_true hn] at KW0
  have KW := Lib.hid KW0
  have HN := Lib.hid hn
  clear KW0 hn
  by_cases ht : tim t
  case neg =>
    rw [decide_eq_false (p := -4611686018427387904 ≤ t ∧ t ≤ 4611686018427387903) ht] at KT0
    have KT := Lib.hid KT0
    clear KT0 ht
    go_enter Try.func3, Try.ntmps3
    go_wp2_with fail
    obtain ⟨w1, hw1⟩ : ∃ w', w' = (w.alloc (.cells #[.slice A a.length ca] 22)) := ⟨_, rfl⟩
    have q1 : Below w.heap.size w w1 := by rw [hw1]; exact ((Below.refl _ w).alloc (Nat.le_refl _) _)
    have r_sl : Rd w1 (w.heap.size + 1) (some ⟨w.heap.size, 0, none⟩) [.slice A a.length ca] := by rw [hw1]; exact rd_arr w [.slice A a.length ca] _ _ _ rfl (by omega)
    rw [← hw1]
    replace r_a := r_a.next q1
    replace B0 := B0.trans (q1.mono B0.size)
    clear hw1 q1
    refine (KG.out _ r_sl).mono ?_; rintro e wq ⟨rfl, hq⟩; subst hq
    clear r_sl KG
    go_wp2_with fail
    refine (KW.out _).mono ?_; rintro e wq ⟨rfl, hq⟩; subst hq
    go_wp2_with fail
    refine (KT.out _).mono ?_; rintro e wq ⟨rfl, hq⟩; subst hq
    go_wp2_with fail
    refine (wakes_any _).mono ?_; rintro e w2 ⟨rfl, q2⟩
    replace r_a := r_a.next q2
    replace B0 := B0.trans (q2.mono B0.size)
    clear q2
    go_wp2_with fail
    go_ret
    exact ⟨rfl, B0⟩
  rw [decide_eq_true (p := -4611686018427387904 ≤ t ∧ t ≤ 4611686018427387903) ht] at KT0
  have KT := Lib.hid KT0
  have HTM := Lib.hid ht
  clear KT0 ht
  go_enter Try.func3, Try.ntmps3
  go_wp2_with fail
  obtain ⟨w1, hw1⟩ : ∃ w', w' = (w.alloc (.cells #[.slice A a.length ca] 22)) := ⟨_, rfl⟩
  have q1 : Below w.heap.size w w1 := by rw [hw1]; exact ((Below.refl _ w).alloc (Nat.le_refl _) _)
  have r_sl : Rd w1 (w.heap.size + 1) (some ⟨w.heap.size, 0, none⟩) [.slice A a.length ca] := by rw [hw1]; exact rd_arr w [.slice A a.length ca] _ _ _ rfl (by omega)
  rw [← hw1]
  replace r_a := r_a.next q1
  replace B0 := B0.trans (q1.mono B0.size)
  clear hw1 q1
  refine (KG.out _ r_sl).mono ?_; rintro e wq ⟨rfl, hq⟩; subst hq
  clear r_sl KG
  go_wp2_with fail
  refine (KW.out _).mono ?_; rintro e wq ⟨rfl, hq⟩; subst hq
  go_wp2_with fail
  refine (KT.out _).mono ?_; rintro e wq ⟨rfl, hq⟩; subst hq
  go_wp2_with fail
  go_loopw [7] (fun vi wr => ∃ k : Nat, k ≤ a.length ∧ vi = .int .i64 k ∧ (∀ s ∈ a.take k, tim s.1 ∧ tim s.2) ∧ w1 = wr) (fun vi _ => a.length - (intOf vi).toNat)
  case atStart => exact ⟨0, by omega, rfl, by simp, rfl⟩
  case round =>
    obtain ⟨k, hk, rfl, hall, rfl⟩ := hrel
    have HALL0 := Lib.hid hall
    clear hall
    by_cases hlt : k < a.length
    case pos =>
      obtain ⟨s, hs⟩ : ∃ v, a[k]? = some v := ⟨_, List.getElem?_eq_getElem hlt⟩
      obtain ⟨gb, go, hgA, hgb, q0, q1⟩ := rd_span r_a hs
      subst hgA
      have hkI : (k : Int) < (a.length : Int) := by omega
      have HS := Lib.hid hs
      have K1 := fun w => time_any s.1 w
      have K2 := fun w => time_any s.2 w
      clear hs
      by_cases t1 : tim s.1
      case neg =>
        have hd : decide (-4611686018427387904 ≤ s.1 ∧ s.1 ≤ 4611686018427387903) = false := decide_eq_false t1
        rw [hd] at K1
        have HK1 := Lib.hid K1
        clear K1 K2 hd t1
        go_wp2_with fail
        refine (HK1.out _).mono ?_; rintro e wq ⟨rfl, hq⟩; subst hq
        go_wp2_with fail
        refine (wakes_any _).mono ?_; rintro e w5 ⟨rfl, q5⟩
        go_wp2_with fail
        go_ret
        exact ⟨rfl, B0.trans (q5.mono B0.size)⟩
      have hd : decide (-4611686018427387904 ≤ s.1 ∧ s.1 ≤ 4611686018427387903) = true := decide_eq_true t1
      rw [hd] at K1
      have HK1 := Lib.hid K1
      clear K1 hd
      by_cases t2 : tim s.2
      case neg =>
        have hd : decide (-4611686018427387904 ≤ s.2 ∧ s.2 ≤ 4611686018427387903) = false := decide_eq_false t2
        rw [hd] at K2
        have HK2 := Lib.hid K2
        clear K2 hd t2 t1
        go_wp2_with fail
        refine (HK1.out _).mono ?_; rintro e wq ⟨rfl, hq⟩; subst hq
        go_wp2_with fail
        refine (HK2.out _).mono ?_; rintro e wq ⟨rfl, hq⟩; subst hq
        go_wp2_with fail
        refine (wakes_any _).mono ?_; rintro e w5 ⟨rfl, q5⟩
        go_wp2_with fail
        go_ret
        exact ⟨rfl, B0.trans (q5.mono B0.size)⟩
      have hd : decide (-4611686018427387904 ≤ s.2 ∧ s.2 ≤ 4611686018427387903) = true := decide_eq_true t2
      rw [hd] at K2
      have HK2 := Lib.hid K2
      have HTT := Lib.hid (And.intro t1 t2)
      clear K2 hd t1 t2
      go_wp2_with fail
      refine (HK1.out _).mono ?_; rintro e wq ⟨rfl, hq⟩; subst hq
      go_wp2_with fail
      refine (HK2.out _).mono ?_; rintro e wq ⟨rfl, hq⟩; subst hq
      go_wp2_with fail
      go_roundw
      case rel =>
        refine ⟨k + 1, by omega, by go_num, fun u hu => ?_, by trivial⟩
        rw [List.take_add_one, HS.out] at hu
        rcases List.mem_append.1 hu with h | h
        · exact HALL0.out u h
        · simp at h; rw [h]; exact HTT.out
      case measure => simp [intOf]; omega
    have hkk : k = a.length := by omega
    have hge : (a.length : Int) ≤ (k : Int) := by omega
    have hall := HALL0.out
    rw [hkk, List.take_length] at hall
    clear hkk HALL0
    have KB0 := fun w => Bucket_any t n w
    obtain ⟨u, v, o, i, z1, z2, q1, q2, e_u, e_v, e_w, e_o, e_i, f_o, f_i, l_o, l_i, e_q1, e_q2, e_z1, e_z2, l_z1, l_z2, c1, c2, e_y1, e_y2, e_oo, e_io⟩ := whole_facts HN.out HTM.out hall
    rw [e_u, e_v, e_w] at KB0
    have KB := Lib.hid KB0
    have He_o := Lib.hid e_o
    have He_i := Lib.hid e_i
    have Hf_o := Lib.hid f_o
    have Hf_i := Lib.hid f_i
    have He_q1 := Lib.hid e_q1
    have He_q2 := Lib.hid e_q2
    have He_z1 := Lib.hid e_z1
    have He_z2 := Lib.hid e_z2
    have Hc1 := Lib.hid c1
    have Hc2 := Lib.hid c2
    have He_y1 := Lib.hid e_y1
    have He_y2 := Lib.hid e_y2
    have He_oo := Lib.hid e_oo
    have He_io := Lib.hid e_io
    clear KB0 hall e_u e_v e_w e_o e_i f_o f_i e_q1 e_q2 e_z1 e_z2 c1 c2 e_y1 e_y2 e_oo e_io
    have l_1 : ([(u, v)] : List S2).length ≤ 1000 := by simp
    go_wp2_with fail
    refine (kOwn (by omega) r_a).mono ?_; rintro e w2 ⟨A_p1, c_p1, rfl, o_p1, q2⟩
    replace r_a := r_a.next q2
    replace B0 := B0.trans (q2.mono B0.size)
    have r_p1 := rd_own o_p1
    clear o_p1 q2
    go_wp2_with fail
    refine (kOut He_o.out (by omega) r_p1).mono ?_; rintro e w3 ⟨A_o, c_o, rfl, o_o, q3⟩
    replace r_a := r_a.next q3
    replace r_p1 := r_p1.next q3
    replace B0 := B0.trans (q3.mono B0.size)
    have r_o := rd_own o_o
    clear o_o q3
    clear r_p1
    go_wp2_with fail
    refine (kOwn (by omega) r_a).mono ?_; rintro e w4 ⟨A_p1, c_p1, rfl, o_p1, q4⟩
    replace r_a := r_a.next q4
    replace r_o := r_o.next q4
    replace B0 := B0.trans (q4.mono B0.size)
    have r_p1 := rd_own o_p1
    clear o_p1 q4
    go_wp2_with fail
    refine (kIn He_i.out (by omega) r_p1).mono ?_; rintro e w5 ⟨A_i, c_i, rfl, o_i, q5⟩
    replace r_a := r_a.next q5
    replace r_o := r_o.next q5
    replace r_p1 := r_p1.next q5
    replace B0 := B0.trans (q5.mono B0.size)
    have r_i := rd_own o_i
    clear o_i q5
    clear r_p1
    go_wp2_with fail
    refine (KB.out _).mono ?_; rintro e w6 ⟨rfl, q6⟩
    replace r_a := r_a.next q6
    replace r_o := r_o.next q6
    replace r_i := r_i.next q6
    replace B0 := B0.trans (q6.mono B0.size)
    clear q6
    go_wp2_with fail
    obtain ⟨w7, hw7⟩ : ∃ w', w' = (w6.alloc (.cells #[.int .i64 u, .int .i64 v] 27)) := ⟨_, rfl⟩
    have q7 : Below w6.heap.size w6 w7 := by rw [hw7]; exact ((Below.refl _ w6).alloc (Nat.le_refl _) _)
    have r_bb : RdS w7 (some ⟨w6.heap.size, 0, none⟩) [(u, v)] := by rw [hw7]; exact rd_arr w6 (scells [(u, v)]) 27 _ _ rfl (by simp)
    rw [← hw7]
    replace r_a := r_a.next q7
    replace r_o := r_o.next q7
    replace r_i := r_i.next q7
    replace B0 := B0.trans (q7.mono B0.size)
    clear hw7 q7
    refine (kForm Hf_o.out (by omega) r_o).mono ?_; rintro e w8 ⟨rfl, q8⟩
    replace r_a := r_a.next q8
    replace r_o := r_o.next q8
    replace r_i := r_i.next q8
    replace r_bb := r_bb.next q8
    replace B0 := B0.trans (q8.mono B0.size)
    clear q8
    go_wp2_with fail
    refine (kForm Hf_i.out (by omega) r_i).mono ?_; rintro e w9 ⟨rfl, q9⟩
    replace r_a := r_a.next q9
    replace r_o := r_o.next q9
    replace r_i := r_i.next q9
    replace r_bb := r_bb.next q9
    replace B0 := B0.trans (q9.mono B0.size)
    clear q9
    obtain ⟨_, _, hA', _, e0, e1⟩ := rd_span r_bb (i := 0) rfl
    cases hA'
    simp only [Nat.zero_mul, Nat.add_zero, Nat.zero_add] at e0 e1
    go_wp2_with fail
    clear e0 e1
    clear r_bb
    obtain ⟨w10, hw10⟩ : ∃ w', w' = (w9.alloc (.cells #[.int .i64 u, .int .i64 v] 27)) := ⟨_, rfl⟩
    have q10 : Below w9.heap.size w9 w10 := by rw [hw10]; exact ((Below.refl _ w9).alloc (Nat.le_refl _) _)
    have r_bk : RdS w10 (some ⟨w9.heap.size, 0, none⟩) [(u, v)] := by rw [hw10]; exact rd_arr w9 (scells [(u, v)]) 27 _ _ rfl (by simp)
    rw [← hw10]
    replace r_a := r_a.next q10
    replace r_o := r_o.next q10
    replace r_i := r_i.next q10
    replace B0 := B0.trans (q10.mono B0.size)
    clear hw10 q10
    refine (kHas He_q1.out (by omega) r_o).mono ?_; rintro e w11 ⟨rfl, q11⟩
    replace r_a := r_a.next q11
    replace r_o := r_o.next q11
    replace r_i := r_i.next q11
    replace r_bk := r_bk.next q11
    replace B0 := B0.trans (q11.mono B0.size)
    clear q11
    go_wp2_with fail
    refine (kOwn (by omega) r_a).mono ?_; rintro e w12 ⟨A_p1, c_p1, rfl, o_p1, q12⟩
    replace r_a := r_a.next q12
    replace r_o := r_o.next q12
    replace r_i := r_i.next q12
    replace r_bk := r_bk.next q12
    replace B0 := B0.trans (q12.mono B0.size)
    have r_p1 := rd_own o_p1
    clear o_p1 q12
    go_wp2_with fail
    refine (kAnd (b := [(u, v)]) He_z1.out ⟨by omega, l_1⟩ r_p1 r_bk).mono ?_; rintro e w13 ⟨A_z1, c_z1, rfl, o_z1, q13⟩
    replace r_a := r_a.next q13
    replace r_o := r_o.next q13
    replace r_i := r_i.next q13
    replace r_bk := r_bk.next q13
    replace r_p1 := r_p1.next q13
    replace B0 := B0.trans (q13.mono B0.size)
    have r_z1 := rd_own o_z1
    clear o_z1 q13
    clear r_p1
    rcases Hc1.out with ⟨hq1, hz1⟩ | ⟨hq1, hz1⟩ <;> rcases Hc2.out with ⟨hq2, hz2⟩ | ⟨hq2, hz2⟩
    all_goals
      first | subst hq1 | skip
      first | subst hq2 | skip
      first | subst hz1 | skip
      first | subst hz2 | skip
      go_wp2_with fail
      refine (kHas He_q2.out (by omega) r_i).mono ?_; rintro e w14 ⟨rfl, q14⟩
      replace r_a := r_a.next q14
      replace r_o := r_o.next q14
      replace r_i := r_i.next q14
      replace r_bk := r_bk.next q14
      replace r_z1 := r_z1.next q14
      replace B0 := B0.trans (q14.mono B0.size)
      clear q14
      go_wp2_with fail
      refine (kOwn (by omega) r_a).mono ?_; rintro e w15 ⟨A_p1, c_p1, rfl, o_p1, q15⟩
      replace r_a := r_a.next q15
      replace r_o := r_o.next q15
      replace r_i := r_i.next q15
      replace r_bk := r_bk.next q15
      replace r_z1 := r_z1.next q15
      replace B0 := B0.trans (q15.mono B0.size)
      have r_p1 := rd_own o_p1
      clear o_p1 q15
      go_wp2_with fail
      refine (kMinus (a := [(u, v)]) He_z2.out ⟨l_1, by omega⟩ r_bk r_p1).mono ?_; rintro e w16 ⟨A_z2, c_z2, rfl, o_z2, q16⟩
      replace r_a := r_a.next q16
      replace r_o := r_o.next q16
      replace r_i := r_i.next q16
      replace r_bk := r_bk.next q16
      replace r_z1 := r_z1.next q16
      replace r_p1 := r_p1.next q16
      replace B0 := B0.trans (q16.mono B0.size)
      have r_z2 := rd_own o_z2
      clear o_z2 q16
      clear r_p1 r_z1 r_z2 r_bk
      go_wp2_with fail
      refine (kOwn (by omega) r_a).mono ?_; rintro e w17 ⟨A_p1, c_p1, rfl, o_p1, q17⟩
      replace r_a := r_a.next q17
      replace r_o := r_o.next q17
      replace r_i := r_i.next q17
      replace B0 := B0.trans (q17.mono B0.size)
      have r_p1 := rd_own o_p1
      clear o_p1 q17
      go_wp2_with fail
      refine (kMinus He_y1.out ⟨by omega, by omega⟩ r_i r_p1).mono ?_; rintro e w18 ⟨A_y1, c_y1, rfl, o_y1, q18⟩
      replace r_a := r_a.next q18
      replace r_o := r_o.next q18
      replace r_i := r_i.next q18
      replace r_p1 := r_p1.next q18
      replace B0 := B0.trans (q18.mono B0.size)
      have r_y1 := rd_own o_y1
      clear o_y1 q18
      clear r_p1 r_y1
      go_wp2_with fail
      refine (kOwn (by omega) r_a).mono ?_; rintro e w19 ⟨A_p1, c_p1, rfl, o_p1, q19⟩
      replace r_a := r_a.next q19
      replace r_o := r_o.next q19
      replace r_i := r_i.next q19
      replace B0 := B0.trans (q19.mono B0.size)
      have r_p1 := rd_own o_p1
      clear o_p1 q19
      go_wp2_with fail
      refine (kMinus He_y2.out ⟨by omega, by omega⟩ r_p1 r_o).mono ?_; rintro e w20 ⟨A_y2, c_y2, rfl, o_y2, q20⟩
      replace r_a := r_a.next q20
      replace r_o := r_o.next q20
      replace r_i := r_i.next q20
      replace r_p1 := r_p1.next q20
      replace B0 := B0.trans (q20.mono B0.size)
      have r_y2 := rd_own o_y2
      clear o_y2 q20
      clear r_p1 r_y2 r_i r_a
      go_wp2_with fail
      refine (kOut He_oo.out (by omega) r_o).mono ?_; rintro e w21 ⟨A_x1, c_x1, rfl, o_x1, q21⟩
      replace r_o := r_o.next q21
      replace B0 := B0.trans (q21.mono B0.size)
      have r_x1 := rd_own o_x1
      clear o_x1 q21
      go_wp2_with fail
      refine (kIn He_io.out (by omega) r_o).mono ?_; rintro e w22 ⟨A_x2, c_x2, rfl, o_x2, q22⟩
      replace r_o := r_o.next q22
      replace r_x1 := r_x1.next q22
      replace B0 := B0.trans (q22.mono B0.size)
      have r_x2 := rd_own o_x2
      clear o_x2 q22
      go_wp2_with fail
      refine (kEqual (by omega) r_x1 r_o).mono ?_; rintro e w23 ⟨rfl, q23⟩
      replace r_o := r_o.next q23
      replace r_x1 := r_x1.next q23
      replace r_x2 := r_x2.next q23
      replace B0 := B0.trans (q23.mono B0.size)
      clear q23
      go_wp2_with fail
      refine (kEqual (by omega) r_x2 r_o).mono ?_; rintro e w24 ⟨rfl, q24⟩
      replace r_o := r_o.next q24
      replace r_x1 := r_x1.next q24
      replace r_x2 := r_x2.next q24
      replace B0 := B0.trans (q24.mono B0.size)
      clear q24
      go_wp2_with fail
      refine (wakes_any _).mono ?_; rintro e w25 ⟨rfl, q25⟩
      replace r_o := r_o.next q25
      replace r_x1 := r_x1.next q25
      replace r_x2 := r_x2.next q25
      replace B0 := B0.trans (q25.mono B0.size)
      clear q25
      go_wp2_with fail
      go_ret
      exact ⟨rfl, B0⟩
end Go.Proofs.Ytiohdacbnigpkaa

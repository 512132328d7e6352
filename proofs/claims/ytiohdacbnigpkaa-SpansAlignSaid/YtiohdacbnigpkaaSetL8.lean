/- The walk of the law SpansAlign: it answers true. No condition. Printed by gen_setl8.py. -/
import Derived.Test.YtiohdacbnigpkaaSetL3
import Derived.Test.YtiohdacbnigpkaaSetX
namespace Go.Proofs.Ytiohdacbnigpkaa
open Go.RowKit Go.Maps
set_option linter.unusedVariables false
set_option linter.unusedSimpArgs false

set_option maxHeartbeats 8000000 in
set_option maxRecDepth 100000 in
theorem spansAlign_walk (A : Option Addr) (ca : Nat) (a : List S2) (A' : Option Addr) (cb : Nat) (b : List S2) (n : Int) (w : World) (r_a : RdS w A a) (s_a : ∀ x ∈ a, sok x) (r_b : RdS w A' b) (s_b : ∀ x ∈ b, sok x) (h_n : -9223372036854775808 ≤ n ∧ n ≤ 9223372036854775807) :
    Calls Try.prog 7 #[.slice A a.length ca, .slice A' b.length cb, .int .i64 n] w fun e w' => e = .returned (.bool true) ∧ Below w.heap.size w w' := by
  clear s_a s_b h_n
  have B0 : Below w.heap.size w w := Below.refl _ _
  by_cases hgr : 40 < a.length ∨ 40 < b.length
  case pos =>
    have KG := Lib.hid (fun (w' : World) (h : Rd w' (w.heap.size + 1) (some ⟨w.heap.size, 0, none⟩) [.slice A a.length ca, .slice A' b.length cb]) => show Calls Try.prog 8 #[.slice (some ⟨w.heap.size, 0, none⟩) 2 2] w' _ from great_any (w.heap.size + 1) _ 2 [(A, a.length, ca), (A', b.length, cb)] true (by simp; omega) w' h (by simp))
    clear hgr
    go_enter Try.func7, Try.ntmps7
    go_wp2_with fail
    obtain ⟨w1, hw1⟩ : ∃ w', w' = (w.alloc (.cells #[.slice A a.length ca, .slice A' b.length cb] 22)) := ⟨_, rfl⟩
    have q1 : Below w.heap.size w w1 := by rw [hw1]; exact ((Below.refl _ w).alloc (Nat.le_refl _) _)
    have r_sl : Rd w1 (w.heap.size + 1) (some ⟨w.heap.size, 0, none⟩) [.slice A a.length ca, .slice A' b.length cb] := by rw [hw1]; exact rd_arr w [.slice A a.length ca, .slice A' b.length cb] _ _ _ rfl (by omega)
    rw [← hw1]
    replace r_a := r_a.next q1
    replace r_b := r_b.next q1
    replace B0 := B0.trans (q1.mono B0.size)
    clear hw1 q1
    refine (KG.out _ r_sl).mono ?_; rintro e wq ⟨rfl, hq⟩; subst hq
    clear r_sl KG
    go_wp2_with fail
    refine (wakes_any _).mono ?_; rintro e w2 ⟨rfl, q2⟩
    replace r_a := r_a.next q2
    replace r_b := r_b.next q2
    replace B0 := B0.trans (q2.mono B0.size)
    clear q2
    go_wp2_with fail
    go_ret
    exact ⟨rfl, B0⟩
  have KG := Lib.hid (fun (w' : World) (h : Rd w' (w.heap.size + 1) (some ⟨w.heap.size, 0, none⟩) [.slice A a.length ca, .slice A' b.length cb]) => show Calls Try.prog 8 #[.slice (some ⟨w.heap.size, 0, none⟩) 2 2] w' _ from great_any (w.heap.size + 1) _ 2 [(A, a.length, ca), (A', b.length, cb)] false (by simp; omega) w' h (by simp))
  have l_a : a.length ≤ 40 := by omega
  have l_b : b.length ≤ 40 := by omega
  clear hgr
  have KW0 := fun w => width_any n w
  by_cases hn : 1 ≤ n ∧ n ≤ 1099511627776
  case neg =>
    rw [decide_eq_false hn] at KW0
    have KW := Lib.hid KW0
    clear KW0 hn
    go_enter Try.func7, Try.ntmps7
    go_wp2_with fail
    obtain ⟨w1, hw1⟩ : ∃ w', w' = (w.alloc (.cells #[.slice A a.length ca, .slice A' b.length cb] 22)) := ⟨_, rfl⟩
    have q1 : Below w.heap.size w w1 := by rw [hw1]; exact ((Below.refl _ w).alloc (Nat.le_refl _) _)
    have r_sl : Rd w1 (w.heap.size + 1) (some ⟨w.heap.size, 0, none⟩) [.slice A a.length ca, .slice A' b.length cb] := by rw [hw1]; exact rd_arr w [.slice A a.length ca, .slice A' b.length cb] _ _ _ rfl (by omega)
    rw [← hw1]
    replace r_a := r_a.next q1
    replace r_b := r_b.next q1
    replace B0 := B0.trans (q1.mono B0.size)
    clear hw1 q1
    refine (KG.out _ r_sl).mono ?_; rintro e wq ⟨rfl, hq⟩; subst hq
    clear r_sl KG
    go_wp2_with fail
    refine (KW.out _).mono ?_; rintro e wq ⟨rfl, hq⟩; subst hq
    go_wp2_with fail
    refine (wakes_any _).mono ?_; rintro e w2 ⟨rfl, q2⟩
    replace r_a := r_a.next q2
    replace r_b := r_b.next q2
    replace B0 := B0.trans (q2.mono B0.size)
    clear q2
    go_wp2_with fail
    go_ret
    exact ⟨rfl, B0⟩
  rw [decide_eq_true hn] at KW0
  have KW := Lib.hid KW0
  have HN := Lib.hid hn
  clear KW0 hn
  obtain ⟨by_, HEL, hby⟩ := El_span
  obtain ⟨ls, hls⟩ : ∃ l, l = a ++ b := ⟨_, rfl⟩
  have l_ls : ls.length ≤ 80 := by rw [hls, List.length_append]; omega
  have HLS := Lib.hid hls
  clear hls
  go_enter Try.func7, Try.ntmps7
  go_wp2_with fail
  obtain ⟨w1, hw1⟩ : ∃ w', w' = (w.alloc (.cells #[.slice A a.length ca, .slice A' b.length cb] 22)) := ⟨_, rfl⟩
  have q1 : Below w.heap.size w w1 := by rw [hw1]; exact ((Below.refl _ w).alloc (Nat.le_refl _) _)
  have r_sl : Rd w1 (w.heap.size + 1) (some ⟨w.heap.size, 0, none⟩) [.slice A a.length ca, .slice A' b.length cb] := by rw [hw1]; exact rd_arr w [.slice A a.length ca, .slice A' b.length cb] _ _ _ rfl (by omega)
  rw [← hw1]
  replace r_a := r_a.next q1
  replace r_b := r_b.next q1
  replace B0 := B0.trans (q1.mono B0.size)
  clear hw1 q1
  refine (KG.out _ r_sl).mono ?_; rintro e wq ⟨rfl, hq⟩; subst hq
  clear r_sl KG
  go_wp2_with fail
  refine (KW.out _).mono ?_; rintro e wq ⟨rfl, hq⟩; subst hq
  go_wp2_with fail
  refine (kOwn (by omega) r_a).mono ?_; rintro e wp ⟨A_p, c_p, rfl, o_p, qp⟩
  have rb2 := r_b.next qp
  have hbl := scells_length b
  have hzp := qp.size
  go_wp2_with (at_builtin; refine wpList_app HEL rfl _ _ rfl o_p rfl rfl rb2 hbl (scells_one b) (by unfold maxLen; omega) (by have : (a.length + b.length) * by_ ≤ 1000 * 64 := Nat.mul_le_mul (by omega) hby; omega) hzp ?_; intro v9 w9 hown9 hg9 _; have b9 : Below w1.heap.size w1 w9 := qp.trans (own_below o_p hg9 hzp); rw [← List.length_append, ← scells_append, ← HLS.out] at hown9; obtain ⟨A_ls, c_ls, rfl, _⟩ := own_form hown9; have r_ls := rd_own hown9)
  clear hown9 hg9 o_p rb2 hbl qp hzp
  replace r_a := r_a.next b9
  replace r_b := r_b.next b9
  replace B0 := B0.trans (b9.mono B0.size)
  clear b9
  go_loopw [8] (fun vi wr => ∃ k : Nat, k ≤ ls.length ∧ vi = .int .i64 k ∧ (∀ s ∈ ls.take k, tim s.1 ∧ tim s.2) ∧ w9 = wr) (fun vi _ => ls.length - (intOf vi).toNat)
  case atStart => exact ⟨0, by omega, rfl, by simp, rfl⟩
  case round =>
    obtain ⟨k, hk, rfl, hall, rfl⟩ := hrel
    have HALL0 := Lib.hid hall
    clear hall
    by_cases hlt : k < ls.length
    case pos =>
      obtain ⟨s, hs⟩ : ∃ v, ls[k]? = some v := ⟨_, List.getElem?_eq_getElem hlt⟩
      obtain ⟨gb, go, hgA, hgb, q0, q1⟩ := rd_span r_ls hs
      subst hgA
      have hkI : (k : Int) < (ls.length : Int) := by omega
      have HS := Lib.hid hs
      have K1 := fun w => time_any s.1 w
      have K2 := fun w => time_any s.2 w
      clear hs
      by_cases t1 : tim s.1
      case neg =>
        have hd : decide (-4611686018427387904 ≤ s.1 ∧ s.1 ≤ 4611686018427387903) = false := decide_eq_false t1
        rw [hd] at K1
        have HK1 := Lib.hid K1
        clear K1 K2 hd t1
        go_wp2_with fail
        refine (HK1.out _).mono ?_; rintro e wq ⟨rfl, hq⟩; subst hq
        go_wp2_with fail
        refine (wakes_any _).mono ?_; rintro e w5 ⟨rfl, q5⟩
        go_wp2_with fail
        go_ret
        exact ⟨rfl, B0.trans (q5.mono B0.size)⟩
      have hd : decide (-4611686018427387904 ≤ s.1 ∧ s.1 ≤ 4611686018427387903) = true := decide_eq_true t1
      rw [hd] at K1
      have HK1 := Lib.hid K1
      clear K1 hd
      by_cases t2 : tim s.2
      case neg =>
        have hd : decide (-4611686018427387904 ≤ s.2 ∧ s.2 ≤ 4611686018427387903) = false := decide_eq_false t2
        rw [hd] at K2
        have HK2 := Lib.hid K2
        clear K2 hd t2 t1
        go_wp2_with fail
        refine (HK1.out _).mono ?_; rintro e wq ⟨rfl, hq⟩; subst hq
        go_wp2_with fail
        refine (HK2.out _).mono ?_; rintro e wq ⟨rfl, hq⟩; subst hq
        go_wp2_with fail
        refine (wakes_any _).mono ?_; rintro e w5 ⟨rfl, q5⟩
        go_wp2_with fail
        go_ret
        exact ⟨rfl, B0.trans (q5.mono B0.size)⟩
      have hd : decide (-4611686018427387904 ≤ s.2 ∧ s.2 ≤ 4611686018427387903) = true := decide_eq_true t2
      rw [hd] at K2
      have HK2 := Lib.hid K2
      have HTT := Lib.hid (And.intro t1 t2)
      clear K2 hd t1 t2
      go_wp2_with fail
      refine (HK1.out _).mono ?_; rintro e wq ⟨rfl, hq⟩; subst hq
      go_wp2_with fail
      refine (HK2.out _).mono ?_; rintro e wq ⟨rfl, hq⟩; subst hq
      go_wp2_with fail
      go_roundw
      case rel =>
        refine ⟨k + 1, by omega, by go_num, fun u hu => ?_, by trivial⟩
        rw [List.take_add_one, HS.out] at hu
        rcases List.mem_append.1 hu with h | h
        · exact HALL0.out u h
        · simp at h; rw [h]; exact HTT.out
      case measure => simp [intOf]; omega
    have hkk : k = ls.length := by omega
    have hge : (ls.length : Int) ≤ (k : Int) := by omega
    have hall := HALL0.out
    rw [hkk, List.take_length] at hall
    clear hkk HALL0
    rw [HLS.out] at hall
    obtain ⟨lo, hi, ab, aa, oab, oa, ob, iaa, ia, ib, m, im, e_lo, e_hi, e_w1, e_w2, e_ab, e_aa, e_oab, e_oa, e_ob, e_iaa, e_ia, e_ib, e_m, e_im, e_x1, e_x2, e_x3, l_ab, l_aa, l_oab, l_oa, l_ob, l_iaa, l_ia, l_ib, l_m, l_im⟩ := align_facts HN.out (fun s hs => hall s (List.mem_append_left _ hs)) (fun s hs => hall s (List.mem_append_right _ hs))
    have KF0 := fun w => Floor_any (-4611686018427387904) n w
    have KC0 := fun w => Ceil_any 4611686018427387903 n w
    rw [e_lo, e_w1] at KF0
    rw [e_hi, e_w2] at KC0
    have KF := Lib.hid KF0
    have KC := Lib.hid KC0
    have He_ab := Lib.hid e_ab
    have He_aa := Lib.hid e_aa
    have He_oab := Lib.hid e_oab
    have He_oa := Lib.hid e_oa
    have He_ob := Lib.hid e_ob
    have He_iaa := Lib.hid e_iaa
    have He_ia := Lib.hid e_ia
    have He_ib := Lib.hid e_ib
    have He_m := Lib.hid e_m
    have He_im := Lib.hid e_im
    have He_x1 := Lib.hid e_x1
    have He_x2 := Lib.hid e_x2
    have He_x3 := Lib.hid e_x3
    clear KF0 KC0 hall HLS e_lo e_hi e_w1 e_w2 e_ab e_aa e_oab e_oa e_ob e_iaa e_ia e_ib e_m e_im e_x1 e_x2 e_x3
    have l_1 : ([(lo, hi)] : List S2).length ≤ 1000 := by simp
    clear r_ls
    go_wp2_with fail
    refine (kOwn (by omega) r_a).mono ?_; rintro e w21 ⟨A_p1, c_p1, rfl, o_p1, q21⟩
    replace r_a := r_a.next q21
    replace r_b := r_b.next q21
    replace B0 := B0.trans (q21.mono B0.size)
    have r_p1 := rd_own o_p1
    clear o_p1 q21
    go_wp2_with fail
    refine (kOwn (by omega) r_b).mono ?_; rintro e w22 ⟨A_p2, c_p2, rfl, o_p2, q22⟩
    replace r_a := r_a.next q22
    replace r_b := r_b.next q22
    replace r_p1 := r_p1.next q22
    replace B0 := B0.trans (q22.mono B0.size)
    have r_p2 := rd_own o_p2
    clear o_p2 q22
    go_wp2_with fail
    refine (kOr He_ab.out ⟨by omega, by omega⟩ r_p1 r_p2).mono ?_; rintro e w23 ⟨A_q1, c_q1, rfl, o_q1, q23⟩
    replace r_a := r_a.next q23
    replace r_b := r_b.next q23
    replace r_p1 := r_p1.next q23
    replace r_p2 := r_p2.next q23
    replace B0 := B0.trans (q23.mono B0.size)
    have r_q1 := rd_own o_q1
    clear o_q1 q23
    go_wp2_with fail
    refine (kOut He_oab.out (by omega) r_q1).mono ?_; rintro e w24 ⟨A_oab, c_oab, rfl, o_oab, q24⟩
    replace r_a := r_a.next q24
    replace r_b := r_b.next q24
    replace r_p1 := r_p1.next q24
    replace r_p2 := r_p2.next q24
    replace r_q1 := r_q1.next q24
    replace B0 := B0.trans (q24.mono B0.size)
    have r_oab := rd_own o_oab
    clear o_oab q24
    clear r_p1 r_p2 r_q1
    go_wp2_with fail
    refine (kOwn (by omega) r_a).mono ?_; rintro e w25 ⟨A_p1, c_p1, rfl, o_p1, q25⟩
    replace r_a := r_a.next q25
    replace r_b := r_b.next q25
    replace r_oab := r_oab.next q25
    replace B0 := B0.trans (q25.mono B0.size)
    have r_p1 := rd_own o_p1
    clear o_p1 q25
    go_wp2_with fail
    refine (kOut He_oa.out (by omega) r_p1).mono ?_; rintro e w26 ⟨A_oa, c_oa, rfl, o_oa, q26⟩
    replace r_a := r_a.next q26
    replace r_b := r_b.next q26
    replace r_oab := r_oab.next q26
    replace r_p1 := r_p1.next q26
    replace B0 := B0.trans (q26.mono B0.size)
    have r_oa := rd_own o_oa
    clear o_oa q26
    clear r_p1
    go_wp2_with fail
    refine (kOwn (by omega) r_b).mono ?_; rintro e w27 ⟨A_p1, c_p1, rfl, o_p1, q27⟩
    replace r_a := r_a.next q27
    replace r_b := r_b.next q27
    replace r_oab := r_oab.next q27
    replace r_oa := r_oa.next q27
    replace B0 := B0.trans (q27.mono B0.size)
    have r_p1 := rd_own o_p1
    clear o_p1 q27
    go_wp2_with fail
    refine (kOut He_ob.out (by omega) r_p1).mono ?_; rintro e w28 ⟨A_ob, c_ob, rfl, o_ob, q28⟩
    replace r_a := r_a.next q28
    replace r_b := r_b.next q28
    replace r_oab := r_oab.next q28
    replace r_oa := r_oa.next q28
    replace r_p1 := r_p1.next q28
    replace B0 := B0.trans (q28.mono B0.size)
    have r_ob := rd_own o_ob
    clear o_ob q28
    clear r_p1
    go_wp2_with fail
    refine (kOwn (by omega) r_a).mono ?_; rintro e w29 ⟨A_p1, c_p1, rfl, o_p1, q29⟩
    replace r_a := r_a.next q29
    replace r_b := r_b.next q29
    replace r_oab := r_oab.next q29
    replace r_oa := r_oa.next q29
    replace r_ob := r_ob.next q29
    replace B0 := B0.trans (q29.mono B0.size)
    have r_p1 := rd_own o_p1
    clear o_p1 q29
    go_wp2_with fail
    refine (kOwn (by omega) r_b).mono ?_; rintro e w30 ⟨A_p2, c_p2, rfl, o_p2, q30⟩
    replace r_a := r_a.next q30
    replace r_b := r_b.next q30
    replace r_oab := r_oab.next q30
    replace r_oa := r_oa.next q30
    replace r_ob := r_ob.next q30
    replace r_p1 := r_p1.next q30
    replace B0 := B0.trans (q30.mono B0.size)
    have r_p2 := rd_own o_p2
    clear o_p2 q30
    go_wp2_with fail
    refine (kAnd He_aa.out ⟨by omega, by omega⟩ r_p1 r_p2).mono ?_; rintro e w31 ⟨A_q1, c_q1, rfl, o_q1, q31⟩
    replace r_a := r_a.next q31
    replace r_b := r_b.next q31
    replace r_oab := r_oab.next q31
    replace r_oa := r_oa.next q31
    replace r_ob := r_ob.next q31
    replace r_p1 := r_p1.next q31
    replace r_p2 := r_p2.next q31
    replace B0 := B0.trans (q31.mono B0.size)
    have r_q1 := rd_own o_q1
    clear o_q1 q31
    go_wp2_with fail
    refine (kIn He_iaa.out (by omega) r_q1).mono ?_; rintro e w32 ⟨A_iaa, c_iaa, rfl, o_iaa, q32⟩
    replace r_a := r_a.next q32
    replace r_b := r_b.next q32
    replace r_oab := r_oab.next q32
    replace r_oa := r_oa.next q32
    replace r_ob := r_ob.next q32
    replace r_p1 := r_p1.next q32
    replace r_p2 := r_p2.next q32
    replace r_q1 := r_q1.next q32
    replace B0 := B0.trans (q32.mono B0.size)
    have r_iaa := rd_own o_iaa
    clear o_iaa q32
    clear r_p1 r_p2 r_q1
    go_wp2_with fail
    refine (kOwn (by omega) r_a).mono ?_; rintro e w33 ⟨A_p1, c_p1, rfl, o_p1, q33⟩
    replace r_a := r_a.next q33
    replace r_b := r_b.next q33
    replace r_oab := r_oab.next q33
    replace r_oa := r_oa.next q33
    replace r_ob := r_ob.next q33
    replace r_iaa := r_iaa.next q33
    replace B0 := B0.trans (q33.mono B0.size)
    have r_p1 := rd_own o_p1
    clear o_p1 q33
    go_wp2_with fail
    refine (kIn He_ia.out (by omega) r_p1).mono ?_; rintro e w34 ⟨A_ia, c_ia, rfl, o_ia, q34⟩
    replace r_a := r_a.next q34
    replace r_b := r_b.next q34
    replace r_oab := r_oab.next q34
    replace r_oa := r_oa.next q34
    replace r_ob := r_ob.next q34
    replace r_iaa := r_iaa.next q34
    replace r_p1 := r_p1.next q34
    replace B0 := B0.trans (q34.mono B0.size)
    have r_ia := rd_own o_ia
    clear o_ia q34
    clear r_p1
    go_wp2_with fail
    refine (kOwn (by omega) r_b).mono ?_; rintro e w35 ⟨A_p1, c_p1, rfl, o_p1, q35⟩
    replace r_a := r_a.next q35
    replace r_b := r_b.next q35
    replace r_oab := r_oab.next q35
    replace r_oa := r_oa.next q35
    replace r_ob := r_ob.next q35
    replace r_iaa := r_iaa.next q35
    replace r_ia := r_ia.next q35
    replace B0 := B0.trans (q35.mono B0.size)
    have r_p1 := rd_own o_p1
    clear o_p1 q35
    go_wp2_with fail
    refine (kIn He_ib.out (by omega) r_p1).mono ?_; rintro e w36 ⟨A_ib, c_ib, rfl, o_ib, q36⟩
    replace r_a := r_a.next q36
    replace r_b := r_b.next q36
    replace r_oab := r_oab.next q36
    replace r_oa := r_oa.next q36
    replace r_ob := r_ob.next q36
    replace r_iaa := r_iaa.next q36
    replace r_ia := r_ia.next q36
    replace r_p1 := r_p1.next q36
    replace B0 := B0.trans (q36.mono B0.size)
    have r_ib := rd_own o_ib
    clear o_ib q36
    clear r_p1 r_b
    go_wp2_with fail
    refine (KF.out _).mono ?_; rintro e w37 ⟨rfl, q37⟩
    replace r_a := r_a.next q37
    replace r_oab := r_oab.next q37
    replace r_oa := r_oa.next q37
    replace r_ob := r_ob.next q37
    replace r_iaa := r_iaa.next q37
    replace r_ia := r_ia.next q37
    replace r_ib := r_ib.next q37
    replace B0 := B0.trans (q37.mono B0.size)
    clear q37
    go_wp2_with fail
    refine (KC.out _).mono ?_; rintro e w38 ⟨rfl, q38⟩
    replace r_a := r_a.next q38
    replace r_oab := r_oab.next q38
    replace r_oa := r_oa.next q38
    replace r_ob := r_ob.next q38
    replace r_iaa := r_iaa.next q38
    replace r_ia := r_ia.next q38
    replace r_ib := r_ib.next q38
    replace B0 := B0.trans (q38.mono B0.size)
    clear q38
    go_wp2_with fail
    obtain ⟨w39, hw39⟩ : ∃ w', w' = (w38.alloc (.cells #[.int .i64 lo, .int .i64 hi] 27)) := ⟨_, rfl⟩
    have q39 : Below w38.heap.size w38 w39 := by rw [hw39]; exact ((Below.refl _ w38).alloc (Nat.le_refl _) _)
    have r_al : RdS w39 (some ⟨w38.heap.size, 0, none⟩) [(lo, hi)] := by rw [hw39]; exact rd_arr w38 (scells [(lo, hi)]) 27 _ _ rfl (by simp)
    rw [← hw39]
    replace r_a := r_a.next q39
    replace r_oab := r_oab.next q39
    replace r_oa := r_oa.next q39
    replace r_ob := r_ob.next q39
    replace r_iaa := r_iaa.next q39
    replace r_ia := r_ia.next q39
    replace r_ib := r_ib.next q39
    replace B0 := B0.trans (q39.mono B0.size)
    clear hw39 q39
    refine (kOwn (by omega) r_a).mono ?_; rintro e w40 ⟨A_p1, c_p1, rfl, o_p1, q40⟩
    replace r_a := r_a.next q40
    replace r_oab := r_oab.next q40
    replace r_oa := r_oa.next q40
    replace r_ob := r_ob.next q40
    replace r_iaa := r_iaa.next q40
    replace r_ia := r_ia.next q40
    replace r_ib := r_ib.next q40
    replace r_al := r_al.next q40
    replace B0 := B0.trans (q40.mono B0.size)
    have r_p1 := rd_own o_p1
    clear o_p1 q40
    clear r_a
    go_wp2_with fail
    refine (kMinus (a := [(lo, hi)]) He_m.out ⟨l_1, by omega⟩ r_al r_p1).mono ?_; rintro e w41 ⟨A_m, c_m, rfl, o_m, q41⟩
    replace r_oab := r_oab.next q41
    replace r_oa := r_oa.next q41
    replace r_ob := r_ob.next q41
    replace r_iaa := r_iaa.next q41
    replace r_ia := r_ia.next q41
    replace r_ib := r_ib.next q41
    replace r_al := r_al.next q41
    replace r_p1 := r_p1.next q41
    replace B0 := B0.trans (q41.mono B0.size)
    have r_m := rd_own o_m
    clear o_m q41
    clear r_p1
    go_wp2_with fail
    refine (kIn He_im.out (by omega) r_m).mono ?_; rintro e w42 ⟨A_im, c_im, rfl, o_im, q42⟩
    replace r_oab := r_oab.next q42
    replace r_oa := r_oa.next q42
    replace r_ob := r_ob.next q42
    replace r_iaa := r_iaa.next q42
    replace r_ia := r_ia.next q42
    replace r_ib := r_ib.next q42
    replace r_al := r_al.next q42
    replace r_m := r_m.next q42
    replace B0 := B0.trans (q42.mono B0.size)
    have r_im := rd_own o_im
    clear o_im q42
    clear r_m
    go_wp2_with fail
    refine (kOr He_x1.out ⟨by omega, by omega⟩ r_oa r_ob).mono ?_; rintro e w43 ⟨A_q1, c_q1, rfl, o_q1, q43⟩
    replace r_oab := r_oab.next q43
    replace r_oa := r_oa.next q43
    replace r_ob := r_ob.next q43
    replace r_iaa := r_iaa.next q43
    replace r_ia := r_ia.next q43
    replace r_ib := r_ib.next q43
    replace r_al := r_al.next q43
    replace r_im := r_im.next q43
    replace B0 := B0.trans (q43.mono B0.size)
    have r_q1 := rd_own o_q1
    clear o_q1 q43
    go_wp2_with fail
    refine (kEqual (by omega) r_oab r_q1).mono ?_; rintro e w44 ⟨rfl, q44⟩
    replace r_oab := r_oab.next q44
    replace r_oa := r_oa.next q44
    replace r_ob := r_ob.next q44
    replace r_iaa := r_iaa.next q44
    replace r_ia := r_ia.next q44
    replace r_ib := r_ib.next q44
    replace r_al := r_al.next q44
    replace r_im := r_im.next q44
    replace r_q1 := r_q1.next q44
    replace B0 := B0.trans (q44.mono B0.size)
    clear q44
    clear r_q1 r_ob r_oab
    go_wp2_with fail
    refine (kAnd He_x2.out ⟨by omega, by omega⟩ r_ia r_ib).mono ?_; rintro e w45 ⟨A_q1, c_q1, rfl, o_q1, q45⟩
    replace r_oa := r_oa.next q45
    replace r_iaa := r_iaa.next q45
    replace r_ia := r_ia.next q45
    replace r_ib := r_ib.next q45
    replace r_al := r_al.next q45
    replace r_im := r_im.next q45
    replace B0 := B0.trans (q45.mono B0.size)
    have r_q1 := rd_own o_q1
    clear o_q1 q45
    go_wp2_with fail
    refine (kEqual (by omega) r_iaa r_q1).mono ?_; rintro e w46 ⟨rfl, q46⟩
    replace r_oa := r_oa.next q46
    replace r_iaa := r_iaa.next q46
    replace r_ia := r_ia.next q46
    replace r_ib := r_ib.next q46
    replace r_al := r_al.next q46
    replace r_im := r_im.next q46
    replace r_q1 := r_q1.next q46
    replace B0 := B0.trans (q46.mono B0.size)
    clear q46
    clear r_q1 r_ia r_ib r_iaa
    go_wp2_with fail
    refine (kMinus (a := [(lo, hi)]) He_x3.out ⟨l_1, by omega⟩ r_al r_oa).mono ?_; rintro e w47 ⟨A_q1, c_q1, rfl, o_q1, q47⟩
    replace r_oa := r_oa.next q47
    replace r_al := r_al.next q47
    replace r_im := r_im.next q47
    replace B0 := B0.trans (q47.mono B0.size)
    have r_q1 := rd_own o_q1
    clear o_q1 q47
    go_wp2_with fail
    refine (kEqual (by omega) r_im r_q1).mono ?_; rintro e w48 ⟨rfl, q48⟩
    replace r_oa := r_oa.next q48
    replace r_al := r_al.next q48
    replace r_im := r_im.next q48
    replace r_q1 := r_q1.next q48
    replace B0 := B0.trans (q48.mono B0.size)
    clear q48
    clear r_q1 r_im r_al r_oa
    go_wp2_with fail
    refine (wakes_any _).mono ?_; rintro e w49 ⟨rfl, q49⟩
    replace B0 := B0.trans (q49.mono B0.size)
    clear q49
    go_wp2_with fail
    go_ret
    exact ⟨rfl, B0⟩
end Go.Proofs.Ytiohdacbnigpkaa

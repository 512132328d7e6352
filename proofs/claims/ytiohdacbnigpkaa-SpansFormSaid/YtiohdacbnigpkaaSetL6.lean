/- The walk of the law SpansForm: it answers true. No condition. Printed by gen_setl6.py. -/
import Derived.Test.YtiohdacbnigpkaaSetL3
namespace Go.Proofs.Ytiohdacbnigpkaa
open Go.RowKit Go.Maps
set_option linter.unusedVariables false
set_option linter.unusedSimpArgs false

theorem kHasS {s : S2} {t : Int} {q : Bool} (he : q = inS s t) (w : World) : Calls Try.prog 32 #[sa s, .int .i64 t] w fun e w' => e = .returned (.bool q) ∧ Below w.heap.size w w' := by
  have h := has_any s.1 s.2 t w
  rw [Bool.decide_and] at h
  subst he
  exact h
/-- two places of a list changed: it has the same times -/
theorem hasB_swap {L : List S2} {i j : Nat} {x y : S2} (hi : L[i]? = some x) (hj : L[j]? = some y) (u : Int) : hasB ((L.set i y).set j x) u = hasB L u := by
  have li := (List.getElem?_eq_some_iff.1 hi).1
  have lj := (List.getElem?_eq_some_iff.1 hj).1
  refine hasB_mem (fun s => ?_) u
  have g1 : ∀ m, ((L.set i y).set j x)[m]? = if j = m then some x else if i = m then some y else L[m]? := by
    intro m
    rw [List.getElem?_set, List.length_set, List.getElem?_set]
    by_cases h1 : j = m
    · rw [if_pos h1, if_pos h1, if_pos (by omega)]
    · rw [if_neg h1, if_neg h1]
      by_cases h2 : i = m
      · rw [if_pos h2, if_pos h2, if_pos li]
      · rw [if_neg h2, if_neg h2]
  constructor
  · intro h
    obtain ⟨m, hm⟩ := List.getElem?_of_mem h
    rw [g1] at hm
    split at hm
    · simp at hm; subst hm; exact List.mem_of_getElem? hi
    · split at hm
      · simp at hm; subst hm; exact List.mem_of_getElem? hj
      · exact List.mem_of_getElem? hm
  · intro h
    obtain ⟨m, hm⟩ := List.getElem?_of_mem h
    by_cases h1 : i = m
    · subst h1
      rw [hi] at hm; simp at hm; subst hm
      exact List.mem_of_getElem? (i := j) (by rw [g1, if_pos rfl])
    · by_cases h2 : j = m
      · subst h2
        rw [hj] at hm; simp at hm; subst hm
        exact List.mem_of_getElem? (i := i) (by
          rw [g1]
          by_cases h3 : j = i
          · exact absurd h3.symm h1
          · rw [if_neg h3, if_pos rfl])
      · exact List.mem_of_getElem? (i := m) (by rw [g1, if_neg h2, if_neg h1]; exact hm)
set_option maxHeartbeats 8000000 in
set_option maxRecDepth 100000 in
theorem spansForm_walk (A : Option Addr) (ca : Nat) (a : List S2) (A' : Option Addr) (cb : Nat) (b : List S2) (t : Int) (w : World) (r_a : RdS w A a) (s_a : ∀ x ∈ a, sok x) (r_b : RdS w A' b) (s_b : ∀ x ∈ b, sok x) (ht : -9223372036854775808 ≤ t ∧ t ≤ 9223372036854775807) :
    Calls Try.prog 6 #[.slice A a.length ca, .slice A' b.length cb, .int .i64 t] w fun e w' => e = .returned (.bool true) ∧ Below w.heap.size w w' := by
  clear s_a s_b ht
  have B0 : Below w.heap.size w w := Below.refl _ _
  by_cases hgr : 40 < a.length ∨ 40 < b.length
  case pos =>
    have KG := Lib.hid (fun (w' : World) (h : Rd w' (w.heap.size + 1) (some ⟨w.heap.size, 0, none⟩) [.slice A a.length ca, .slice A' b.length cb]) => show Calls Try.prog 8 #[.slice (some ⟨w.heap.size, 0, none⟩) 2 2] w' _ from great_any (w.heap.size + 1) _ 2 [(A, a.length, ca), (A', b.length, cb)] true (by simp; omega) w' h (by simp))
    clear hgr
    go_enter Try.func6, Try.ntmps6
    go_wp2_with fail
    obtain ⟨w1, hw1⟩ : ∃ w', w' = (w.alloc (.cells #[.slice A a.length ca, .slice A' b.length cb] 22)) := ⟨_, rfl⟩
    have q1 : Below w.heap.size w w1 := by rw [hw1]; exact ((Below.refl _ w).alloc (Nat.le_refl _) _)
    have r_sl : Rd w1 (w.heap.size + 1) (some ⟨w.heap.size, 0, none⟩) [.slice A a.length ca, .slice A' b.length cb] := by rw [hw1]; exact rd_arr w [.slice A a.length ca, .slice A' b.length cb] _ _ _ rfl (by omega)
    rw [← hw1]
    replace r_a := r_a.next q1
    replace r_b := r_b.next q1
    replace B0 := B0.trans (q1.mono B0.size)
    clear hw1 q1
    refine (KG.out _ r_sl).mono ?_; rintro e wq ⟨rfl, hq⟩; subst hq
    go_wp2_with fail
    refine (wakes_any _).mono ?_; rintro e w2 ⟨rfl, q2⟩
    replace r_a := r_a.next q2
    replace r_b := r_b.next q2
    replace B0 := B0.trans (q2.mono B0.size)
    clear q2
    go_wp2_with fail
    go_ret
    exact ⟨rfl, B0⟩
  case neg =>
    have KG := Lib.hid (fun (w' : World) (h : Rd w' (w.heap.size + 1) (some ⟨w.heap.size, 0, none⟩) [.slice A a.length ca, .slice A' b.length cb]) => show Calls Try.prog 8 #[.slice (some ⟨w.heap.size, 0, none⟩) 2 2] w' _ from great_any (w.heap.size + 1) _ 2 [(A, a.length, ca), (A', b.length, cb)] false (by simp; omega) w' h (by simp))
    have l_a : a.length ≤ 40 := by omega
    have l_b : b.length ≤ 40 := by omega
    clear hgr
    have L_f := ofL_len a
    have F_f := ofL_form a
    have T_f : hasB a t = hasB (ofL a) t := (ofL_has a t).symm
    have L_o := ofL_len (a ++ b)
    have F_o := ofL_form (a ++ b)
    have T_o : (hasB a t || hasB b t) = hasB (ofL (a ++ b)) t := by rw [ofL_has, hasB_app]
    have L_x := andR_len a b
    have F_x := andR_form a b
    have T_x : (hasB a t && hasB b t) = hasB (andR a b) t := (andR_has a b t).symm
    have L_m := minR_len a b
    have F_m := minR_form a b
    have T_m : (hasB a t && !hasB b t) = hasB (minR a b) t := (minR_has a b t).symm
    simp only [List.length_append] at L_o
    have E_f2 : ofL a = ofL (ofL a) := (ofL_of (ofL_form a) fun _ => rfl).symm
    have E_f3 : ∀ L : List S2, (∀ u, hasB L u = hasB a u) → ofL a = ofL (L ++ a) := fun L h => ofL_eq fun u => by rw [hasB_app, h, Bool.or_self]
    obtain ⟨f, hf⟩ : ∃ r, r = ofL a := ⟨_, rfl⟩
    rw [← hf] at L_f F_f T_f
    have H_f := Lib.hid hf
    obtain ⟨o, ho⟩ : ∃ r, r = ofL (a ++ b) := ⟨_, rfl⟩
    rw [← ho] at L_o F_o T_o
    have H_o := Lib.hid ho
    obtain ⟨x, hx⟩ : ∃ r, r = andR a b := ⟨_, rfl⟩
    rw [← hx] at L_x F_x T_x
    have H_x := Lib.hid hx
    obtain ⟨m, hm⟩ : ∃ r, r = minR a b := ⟨_, rfl⟩
    rw [← hm] at L_m F_m T_m
    have H_m := Lib.hid hm
    simp only [← hf] at E_f2 E_f3
    have E_s : true = decide (ofL a = ofL f) := (decide_eq_true (by rw [← hf]; exact E_f2)).symm
    obtain ⟨p, hp⟩ : ∃ r, r = hasB a t := ⟨_, rfl⟩
    have H_p := Lib.hid hp
    obtain ⟨q, hq⟩ : ∃ r, r = hasB b t := ⟨_, rfl⟩
    have H_q := Lib.hid hq
    simp only [← hp, ← hq] at T_f T_o T_x T_m
    have HF_f := Lib.hid F_f
    have HT_f := Lib.hid T_f
    have HF_o := Lib.hid F_o
    have HT_o := Lib.hid T_o
    have HF_x := Lib.hid F_x
    have HT_x := Lib.hid T_x
    have HF_m := Lib.hid F_m
    have HT_m := Lib.hid T_m
    have H_f2 := Lib.hid E_f2
    have H_f3 := Lib.hid E_f3
    have H_s := Lib.hid E_s
    clear F_f F_o F_x F_m T_f T_o T_x T_m E_f2 E_f3 E_s hf ho hx hm hp hq
    obtain ⟨by_, HEL, hby⟩ := El_span
    go_enter Try.func6, Try.ntmps6
    go_wp2_with fail
    obtain ⟨w1, hw1⟩ : ∃ w', w' = (w.alloc (.cells #[.slice A a.length ca, .slice A' b.length cb] 22)) := ⟨_, rfl⟩
    have q1 : Below w.heap.size w w1 := by rw [hw1]; exact ((Below.refl _ w).alloc (Nat.le_refl _) _)
    have r_sl : Rd w1 (w.heap.size + 1) (some ⟨w.heap.size, 0, none⟩) [.slice A a.length ca, .slice A' b.length cb] := by rw [hw1]; exact rd_arr w [.slice A a.length ca, .slice A' b.length cb] _ _ _ rfl (by omega)
    rw [← hw1]
    replace r_a := r_a.next q1
    replace r_b := r_b.next q1
    replace B0 := B0.trans (q1.mono B0.size)
    clear hw1 q1
    refine (KG.out _ r_sl).mono ?_; rintro e wq ⟨rfl, hq⟩; subst hq
    clear r_sl KG
    go_wp2_with fail
    refine (kOwn (by omega) r_a).mono ?_; rintro e w2 ⟨A_p1, c_p1, rfl, o_p1, q2⟩
    replace r_a := r_a.next q2
    replace r_b := r_b.next q2
    replace B0 := B0.trans (q2.mono B0.size)
    have r_p1 := rd_own o_p1
    clear o_p1 q2
    go_wp2_with fail
    refine (kOwn (by omega) r_b).mono ?_; rintro e w3 ⟨A_p2, c_p2, rfl, o_p2, q3⟩
    replace r_a := r_a.next q3
    replace r_b := r_b.next q3
    replace r_p1 := r_p1.next q3
    replace B0 := B0.trans (q3.mono B0.size)
    have r_p2 := rd_own o_p2
    clear o_p2 q3
    go_wp2_with fail
    refine (kOr H_o.out ⟨by omega, by omega⟩ r_p1 r_p2).mono ?_; rintro e w4 ⟨A_o, c_o, rfl, o_o, q4⟩
    replace r_a := r_a.next q4
    replace r_b := r_b.next q4
    replace r_p1 := r_p1.next q4
    replace r_p2 := r_p2.next q4
    replace B0 := B0.trans (q4.mono B0.size)
    have r_o := rd_own o_o
    clear o_o q4
    clear r_p1 r_p2
    go_wp2_with fail
    refine (kOwn (by omega) r_a).mono ?_; rintro e w5 ⟨A_p1, c_p1, rfl, o_p1, q5⟩
    replace r_a := r_a.next q5
    replace r_b := r_b.next q5
    replace r_o := r_o.next q5
    replace B0 := B0.trans (q5.mono B0.size)
    have r_p1 := rd_own o_p1
    clear o_p1 q5
    go_wp2_with fail
    refine (kOwn (by omega) r_b).mono ?_; rintro e w6 ⟨A_p2, c_p2, rfl, o_p2, q6⟩
    replace r_a := r_a.next q6
    replace r_b := r_b.next q6
    replace r_o := r_o.next q6
    replace r_p1 := r_p1.next q6
    replace B0 := B0.trans (q6.mono B0.size)
    have r_p2 := rd_own o_p2
    clear o_p2 q6
    go_wp2_with fail
    refine (kAnd H_x.out ⟨by omega, by omega⟩ r_p1 r_p2).mono ?_; rintro e w7 ⟨A_x, c_x, rfl, o_x, q7⟩
    replace r_a := r_a.next q7
    replace r_b := r_b.next q7
    replace r_o := r_o.next q7
    replace r_p1 := r_p1.next q7
    replace r_p2 := r_p2.next q7
    replace B0 := B0.trans (q7.mono B0.size)
    have r_x := rd_own o_x
    clear o_x q7
    clear r_p1 r_p2
    go_wp2_with fail
    refine (kOwn (by omega) r_a).mono ?_; rintro e w8 ⟨A_p1, c_p1, rfl, o_p1, q8⟩
    replace r_a := r_a.next q8
    replace r_b := r_b.next q8
    replace r_o := r_o.next q8
    replace r_x := r_x.next q8
    replace B0 := B0.trans (q8.mono B0.size)
    have r_p1 := rd_own o_p1
    clear o_p1 q8
    go_wp2_with fail
    refine (kOwn (by omega) r_b).mono ?_; rintro e w9 ⟨A_p2, c_p2, rfl, o_p2, q9⟩
    replace r_a := r_a.next q9
    replace r_b := r_b.next q9
    replace r_o := r_o.next q9
    replace r_x := r_x.next q9
    replace r_p1 := r_p1.next q9
    replace B0 := B0.trans (q9.mono B0.size)
    have r_p2 := rd_own o_p2
    clear o_p2 q9
    go_wp2_with fail
    refine (kMinus H_m.out ⟨by omega, by omega⟩ r_p1 r_p2).mono ?_; rintro e w10 ⟨A_m, c_m, rfl, o_m, q10⟩
    replace r_a := r_a.next q10
    replace r_b := r_b.next q10
    replace r_o := r_o.next q10
    replace r_x := r_x.next q10
    replace r_p1 := r_p1.next q10
    replace r_p2 := r_p2.next q10
    replace B0 := B0.trans (q10.mono B0.size)
    have r_m := rd_own o_m
    clear o_m q10
    clear r_p1 r_p2
    go_wp2_with fail
    refine (kOf H_f.out (by omega) r_a).mono ?_; rintro e w11 ⟨A_f, c_f, rfl, o_f, q11⟩
    replace r_a := r_a.next q11
    replace r_b := r_b.next q11
    replace r_o := r_o.next q11
    replace r_x := r_x.next q11
    replace r_m := r_m.next q11
    replace B0 := B0.trans (q11.mono B0.size)
    have r_f := rd_own o_f
    clear o_f q11
    go_wp2_with fail
    go_loopw [11, 13] (fun vp vi wr => ∃ k : Nat, k ≤ a.length ∧ vp = .bool (hasB (a.take k) t) ∧ vi = .int .i64 k ∧ Below w11.heap.size w11 wr) (fun _ vi _ => a.length - (intOf vi).toNat)
    case atStart => exact ⟨0, by omega, rfl, rfl, Below.refl _ _⟩
    case round =>
      obtain ⟨k, hk, rfl, rfl, hbel⟩ := hrel
      by_cases hlt : k < a.length
      case pos =>
        obtain ⟨s, hs⟩ : ∃ v, a[k]? = some v := ⟨_, List.getElem?_eq_getElem hlt⟩
        obtain ⟨gb, go, rfl, hgb, q0, q1⟩ := rd_span r_a hs
        have r0 := (hbel.cell (p := ⟨gb, go + k * 2, none⟩) (by show gb < _; omega)).trans q0
        have r1 := (hbel.cell (p := ⟨gb, go + k * 2 + 1, none⟩) (by show gb < _; omega)).trans q1
        have hkI : (k : Int) < (a.length : Int) := by omega
        have HTK := Lib.hid (hasB_take t hs)
        obtain ⟨hb, hhb⟩ : ∃ h, h = hasB (a.take k) t := ⟨_, rfl⟩
        rw [← hhb] at HTK ⊢
        obtain ⟨ib, hib⟩ : ∃ h, h = inS s t := ⟨_, rfl⟩
        have KS := Lib.hid (fun w => kHasS hib w)
        rw [← hib] at HTK
        clear q0 q1 hs hhb hib
        cases hb
        case true =>
          go_wp2_with fail
          go_roundw
          case rel => exact ⟨k + 1, by omega, by rw [HTK.out]; rfl, by go_num, hbel⟩
          case measure => simp [intOf]; omega
        case false =>
          go_wp2_with fail
          refine (KS.out _).mono ?_; rintro e w5 ⟨rfl, hb5⟩
          have hb05 := hbel.trans (hb5.mono hbel.size)
          go_wp2_with fail
          go_roundw
          case rel => exact ⟨k + 1, by omega, by rw [HTK.out]; rfl, by go_num, hb05⟩
          case measure => simp [intOf]; omega
      have hkk : k = a.length := by omega
      have hge : (a.length : Int) ≤ (k : Int) := by omega
      have hpv : hasB (a.take k) t = p := by rw [hkk, List.take_length, H_p.out]
      rw [hpv]
      have hdf : decide (k < a.length) = false := by simp; omega
      clear hkk hpv hlt
      obtain ⟨w12, hwn⟩ : ∃ w2, w2 = wr := ⟨_, rfl⟩
      subst hwn
      replace r_a := r_a.next hbel
      replace r_b := r_b.next hbel
      replace r_o := r_o.next hbel
      replace r_x := r_x.next hbel
      replace r_m := r_m.next hbel
      replace r_f := r_f.next hbel
      replace B0 := B0.trans (hbel.mono B0.size)
      clear hbel
      go_wp2_with fail
      try rw [hdf]
      clear hdf
      go_loopw [12, 14] (fun vp vi wr => ∃ k : Nat, k ≤ b.length ∧ vp = .bool (hasB (b.take k) t) ∧ vi = .int .i64 k ∧ Below w12.heap.size w12 wr) (fun _ vi _ => b.length - (intOf vi).toNat)
      case atStart => exact ⟨0, by omega, rfl, rfl, Below.refl _ _⟩
      case round =>
        obtain ⟨k, hk, rfl, rfl, hbel⟩ := hrel
        by_cases hlt : k < b.length
        case pos =>
          obtain ⟨s, hs⟩ : ∃ v, b[k]? = some v := ⟨_, List.getElem?_eq_getElem hlt⟩
          obtain ⟨gb, go, rfl, hgb, q0, q1⟩ := rd_span r_b hs
          have r0 := (hbel.cell (p := ⟨gb, go + k * 2, none⟩) (by show gb < _; omega)).trans q0
          have r1 := (hbel.cell (p := ⟨gb, go + k * 2 + 1, none⟩) (by show gb < _; omega)).trans q1
          have hkI : (k : Int) < (b.length : Int) := by omega
          have HTK := Lib.hid (hasB_take t hs)
          obtain ⟨hb, hhb⟩ : ∃ h, h = hasB (b.take k) t := ⟨_, rfl⟩
          rw [← hhb] at HTK ⊢
          obtain ⟨ib, hib⟩ : ∃ h, h = inS s t := ⟨_, rfl⟩
          have KS := Lib.hid (fun w => kHasS hib w)
          rw [← hib] at HTK
          clear q0 q1 hs hhb hib
          cases hb
          case true =>
            go_wp2_with fail
            go_roundw
            case rel => exact ⟨k + 1, by omega, by rw [HTK.out]; rfl, by go_num, hbel⟩
            case measure => simp [intOf]; omega
          case false =>
            go_wp2_with fail
            refine (KS.out _).mono ?_; rintro e w5 ⟨rfl, hb5⟩
            have hb05 := hbel.trans (hb5.mono hbel.size)
            go_wp2_with fail
            go_roundw
            case rel => exact ⟨k + 1, by omega, by rw [HTK.out]; rfl, by go_num, hb05⟩
            case measure => simp [intOf]; omega
        have hkk : k = b.length := by omega
        have hge : (b.length : Int) ≤ (k : Int) := by omega
        have hpv : hasB (b.take k) t = q := by rw [hkk, List.take_length, H_q.out]
        rw [hpv]
        have hdf : decide (k < b.length) = false := by simp; omega
        clear hkk hpv hlt
        obtain ⟨w13, hwn⟩ : ∃ w2, w2 = wr := ⟨_, rfl⟩
        subst hwn
        replace r_a := r_a.next hbel
        replace r_b := r_b.next hbel
        replace r_o := r_o.next hbel
        replace r_x := r_x.next hbel
        replace r_m := r_m.next hbel
        replace r_f := r_f.next hbel
        replace B0 := B0.trans (hbel.mono B0.size)
        clear hbel
        clear r_b
        cases p <;> cases q
        all_goals
          go_wp2_with fail
          refine (kForm HF_o.out (by omega) r_o).mono ?_; rintro e w14 ⟨rfl, q14⟩
          replace r_a := r_a.next q14
          replace r_o := r_o.next q14
          replace r_x := r_x.next q14
          replace r_m := r_m.next q14
          replace r_f := r_f.next q14
          replace B0 := B0.trans (q14.mono B0.size)
          clear q14
          go_wp2_with fail
          refine (kForm HF_x.out (by omega) r_x).mono ?_; rintro e w15 ⟨rfl, q15⟩
          replace r_a := r_a.next q15
          replace r_o := r_o.next q15
          replace r_x := r_x.next q15
          replace r_m := r_m.next q15
          replace r_f := r_f.next q15
          replace B0 := B0.trans (q15.mono B0.size)
          clear q15
          go_wp2_with fail
          refine (kForm HF_m.out (by omega) r_m).mono ?_; rintro e w16 ⟨rfl, q16⟩
          replace r_a := r_a.next q16
          replace r_o := r_o.next q16
          replace r_x := r_x.next q16
          replace r_m := r_m.next q16
          replace r_f := r_f.next q16
          replace B0 := B0.trans (q16.mono B0.size)
          clear q16
          go_wp2_with fail
          refine (kForm HF_f.out (by omega) r_f).mono ?_; rintro e w17 ⟨rfl, q17⟩
          replace r_a := r_a.next q17
          replace r_o := r_o.next q17
          replace r_x := r_x.next q17
          replace r_m := r_m.next q17
          replace r_f := r_f.next q17
          replace B0 := B0.trans (q17.mono B0.size)
          clear q17
          go_wp2_with fail
          refine (kHas H_p.out (by omega) r_a).mono ?_; rintro e w18 ⟨rfl, q18⟩
          replace r_a := r_a.next q18
          replace r_o := r_o.next q18
          replace r_x := r_x.next q18
          replace r_m := r_m.next q18
          replace r_f := r_f.next q18
          replace B0 := B0.trans (q18.mono B0.size)
          clear q18
          go_wp2_with fail
          refine (kHas HT_f.out (by omega) r_f).mono ?_; rintro e w19 ⟨rfl, q19⟩
          replace r_a := r_a.next q19
          replace r_o := r_o.next q19
          replace r_x := r_x.next q19
          replace r_m := r_m.next q19
          replace r_f := r_f.next q19
          replace B0 := B0.trans (q19.mono B0.size)
          clear q19
          go_wp2_with fail
          refine (kHas HT_o.out (by omega) r_o).mono ?_; rintro e w20 ⟨rfl, q20⟩
          replace r_a := r_a.next q20
          replace r_o := r_o.next q20
          replace r_x := r_x.next q20
          replace r_m := r_m.next q20
          replace r_f := r_f.next q20
          replace B0 := B0.trans (q20.mono B0.size)
          clear q20
          go_wp2_with fail
          refine (kHas HT_x.out (by omega) r_x).mono ?_; rintro e w21 ⟨rfl, q21⟩
          replace r_a := r_a.next q21
          replace r_o := r_o.next q21
          replace r_x := r_x.next q21
          replace r_m := r_m.next q21
          replace r_f := r_f.next q21
          replace B0 := B0.trans (q21.mono B0.size)
          clear q21
          go_wp2_with fail
          refine (kHas HT_m.out (by omega) r_m).mono ?_; rintro e w22 ⟨rfl, q22⟩
          replace r_a := r_a.next q22
          replace r_o := r_o.next q22
          replace r_x := r_x.next q22
          replace r_m := r_m.next q22
          replace r_f := r_f.next q22
          replace B0 := B0.trans (q22.mono B0.size)
          clear q22
          clear r_o r_x r_m
          go_wp2_with fail
          refine (kOwn (by omega) r_a).mono ?_; rintro e w23 ⟨A_r, c_r, rfl, o_r, qn⟩
          go_wp2_with fail
          have hM := B0.size
          go_loopw [16] (fun vi wr => ∃ (k : Nat) (L : List S2), k ≤ a.length / 2 ∧ vi = .int .i64 k ∧ L.length = a.length ∧ (∀ u, hasB L u = hasB a u) ∧ wr.ownsRow w22.heap.size 27 2 (.slice A_r a.length c_r) a.length (scells L) ∧ Below w22.heap.size w22 wr) (fun vi _ => a.length - (intOf vi).toNat)
          case atStart => exact ⟨0, a, by omega, rfl, rfl, fun _ => rfl, o_r, qn⟩
          case round =>
            obtain ⟨k, L, hk, rfl, hLl, hLh, hown, hbel⟩ := hrel
            have HLH := Lib.hid hLh
            clear hLh
            have hdv : (a.length : Int).tdiv 2 = ((a.length / 2 : Nat) : Int) := by rw [Int.tdiv_eq_ediv_of_nonneg (by omega)]; omega
            by_cases hlt : k < a.length / 2
            case pos =>
              obtain ⟨n, hn⟩ : ∃ n, n = a.length := ⟨_, rfl⟩
              obtain ⟨j, hj⟩ : ∃ j, j = n - 1 - k := ⟨_, rfl⟩
              have hkj : k < j ∧ j < n ∧ n ≤ 40 ∧ (j : Int) = (n : Int) - 1 - (k : Int) := by omega
              have hhI : (k : Int) < (n : Int).tdiv 2 := by rw [hn, hdv]; omega
              rw [← hn] at hown hLl hdv ⊢
              obtain ⟨g, cap, hA, hg1, hg2⟩ := own_some hown (by omega)
              simp only [Value.slice.injEq, true_and] at hA
              obtain ⟨rfl, rfl⟩ := hA
              obtain ⟨x, hx⟩ : ∃ x, L[k]? = some x := ⟨_, List.getElem?_eq_getElem (by omega)⟩
              obtain ⟨y, hy⟩ : ∃ y, L[j]? = some y := ⟨_, List.getElem?_eq_getElem (by omega)⟩
              obtain ⟨x0, x1⟩ := scells_at _ _ _ hx
              obtain ⟨y0, y1⟩ := scells_at _ _ _ hy
              have hsl := scells_length L
              have cx0 := hown.cellAt (k * 2) (by omega)
              have cx1 := hown.cellAt (k * 2 + 1) (by omega)
              have cy0 := hown.cellAt (j * 2) (by omega)
              have cy1 := hown.cellAt (j * 2 + 1) (by omega)
              rw [x0] at cx0; rw [x1] at cx1; rw [y0] at cy0; rw [y1] at cy1
              have fx0 := hown.frozenAt (k * 2)
              have fx1 := hown.frozenAt (k * 2 + 1)
              obtain ⟨we, hwe⟩ : ∃ we, we = wr.drew := ⟨_, rfl⟩
              have ownE : we.ownsRow w22.heap.size 27 2 (.slice (some ⟨g, 0, none⟩) n c_r) n (scells L) := by rw [hwe]; exact hown
              have belE : Below w22.heap.size w22 we := by rw [hwe]; exact hbel.drew
              have c0 : we.cell? ⟨g, k * 2, none⟩ = some (.int .i64 x.1) := by rw [hwe]; exact cx0
              have c1 : we.cell? ⟨g, k * 2 + 1, none⟩ = some (.int .i64 x.2) := by rw [hwe]; exact cx1
              have c2 : we.cell? ⟨g, j * 2, none⟩ = some (.int .i64 y.1) := by rw [hwe]; exact cy0
              have c3 : we.cell? ⟨g, j * 2 + 1, none⟩ = some (.int .i64 y.2) := by rw [hwe]; exact cy1
              have fc0 := ownE.frozenAt (k * 2)
              have fc1 := ownE.frozenAt (k * 2 + 1)
              have u1 : IntKind.i64.wrap ((n : Int) - 1) = (n : Int) - 1 := by rw [IntKind.wrap_i64]; omega
              have u2 : IntKind.i64.wrap ((n : Int) - 1 - (k : Int)) = (j : Int) := by rw [IntKind.wrap_i64]; omega
              have u3 : (0 : Int) ≤ (j : Int) := by omega
              have u4 : (j : Int) < (n : Int) := by omega
              have u5 : (j : Int).toNat = j := by omega
              have u6 : (k : Int) < (n : Int) := by omega
              have u7 : k < n := by omega
              have u8 : j < n := by omega
              have u9 : (k : Int) ≤ (n : Int) - 1 := by omega
              have u10 : (n : Int) - 1 - (k : Int) < (n : Int) := by omega
              have HX := Lib.hid hx
              have HY := Lib.hid hy
              have HJ := Lib.hid hj
              have HN := Lib.hid hn
              clear hx hy hj hn x0 x1 y0 y1 cx0 cx1 cy0 cy1 fx0 fx1 hown hbel hsl
              go_wp2_with fail
              refine ah_start 24 (fun w' => True) rfl (by kernel_rfl) trivial ?_ ; intro hS
              rw [← hwe]
              clear hwe
              (refine mv_val 0 (v := ?_) rfl (by kernel_rfl) (by kernel_rfl) (by kernel_rfl) (fun _ _ _ h => h) (by rfl) hS ?_ ?_; rotate_left; (focus (intro w hSw; (try dsimp only at hSw); (have f1 := u1; have f2 := HJ.out.symm; have f9 := u9; have f10 := u10; have f3 := u3; have f4 := u4; have f5 := u5; have f6 := u6; have f7 := u7; have f8 := u8); go_simp; first | done | with_reducible rfl)); simp only [Act.put, List.setIfInBounds_toArray, List.set_cons_zero, List.set_cons_succ])
              (refine mv_val 1 (v := ?_) rfl (by kernel_rfl) (by kernel_rfl) (by kernel_rfl) (fun _ _ _ h => h) (by rfl) hS ?_ ?_; rotate_left; (focus (intro w hSw; (try dsimp only at hSw); (have f1 := u1; have f2 := HJ.out.symm; have f9 := u9; have f10 := u10; have f3 := u3; have f4 := u4; have f5 := u5; have f6 := u6; have f7 := u7; have f8 := u8); go_simp; first | done | with_reducible rfl)); simp only [Act.put, List.setIfInBounds_toArray, List.set_cons_zero, List.set_cons_succ])
              (refine mv_val 2 (v := ?_) rfl (by kernel_rfl) (by kernel_rfl) (by kernel_rfl) (fun _ _ _ h => h) (by rfl) hS ?_ ?_; rotate_left; (focus (intro w hSw; (try dsimp only at hSw); (have f1 := u1; have f2 := HJ.out.symm; have f9 := u9; have f10 := u10; have f3 := u3; have f4 := u4; have f5 := u5; have f6 := u6; have f7 := u7; have f8 := u8); go_simp; first | done | with_reducible rfl)); simp only [Act.put, List.setIfInBounds_toArray, List.set_cons_zero, List.set_cons_succ])
              (refine mv_val 3 (v := ?_) rfl (by kernel_rfl) (by kernel_rfl) (by kernel_rfl) (fun _ _ _ h => h) (by rfl) hS ?_ ?_; rotate_left; (focus (intro w hSw; (try dsimp only at hSw); (have f1 := u1; have f2 := HJ.out.symm; have f9 := u9; have f10 := u10; have f3 := u3; have f4 := u4; have f5 := u5; have f6 := u6; have f7 := u7; have f8 := u8); go_simp; first | done | with_reducible rfl)); simp only [Act.put, List.setIfInBounds_toArray, List.set_cons_zero, List.set_cons_succ])
              (refine mv_val 4 (v := ?_) rfl (by kernel_rfl) (by kernel_rfl) (by kernel_rfl) (fun _ _ _ h => h) (by rfl) hS ?_ ?_; rotate_left; (focus (intro w hSw; (try dsimp only at hSw); (have f1 := u1; have f2 := HJ.out.symm; have f9 := u9; have f10 := u10; have f3 := u3; have f4 := u4; have f5 := u5; have f6 := u6; have f7 := u7; have f8 := u8); go_simp; first | done | with_reducible rfl)); simp only [Act.put, List.setIfInBounds_toArray, List.set_cons_zero, List.set_cons_succ])
              (refine mv_val 5 (v := ?_) rfl (by kernel_rfl) (by kernel_rfl) (by kernel_rfl) (fun _ _ _ h => h) (by rfl) hS ?_ ?_; rotate_left; (focus (intro w hSw; (try dsimp only at hSw); (have f1 := u1; have f2 := HJ.out.symm; have f9 := u9; have f10 := u10; have f3 := u3; have f4 := u4; have f5 := u5; have f6 := u6; have f7 := u7; have f8 := u8); go_simp; first | done | with_reducible rfl)); simp only [Act.put, List.setIfInBounds_toArray, List.set_cons_zero, List.set_cons_succ])
              (refine mv_val 6 (v := ?_) rfl (by kernel_rfl) (by kernel_rfl) (by kernel_rfl) (fun _ _ _ h => h) (by rfl) hS ?_ ?_; rotate_left; (focus (intro w hSw; (try dsimp only at hSw); (have f1 := u1; have f2 := HJ.out.symm; have f9 := u9; have f10 := u10; have f3 := u3; have f4 := u4; have f5 := u5; have f6 := u6; have f7 := u7; have f8 := u8); go_simp; first | done | with_reducible rfl)); simp only [Act.put, List.setIfInBounds_toArray, List.set_cons_zero, List.set_cons_succ])
              (refine mv_val 7 (v := ?_) rfl (by kernel_rfl) (by kernel_rfl) (by kernel_rfl) (fun _ _ _ h => h) (by rfl) hS ?_ ?_; rotate_left; (focus (intro w hSw; (try dsimp only at hSw); (have f1 := u1; have f2 := HJ.out.symm; have f9 := u9; have f10 := u10; have f3 := u3; have f4 := u4; have f5 := u5; have f6 := u6; have f7 := u7; have f8 := u8); go_simp; first | done | with_reducible rfl)); simp only [Act.put, List.setIfInBounds_toArray, List.set_cons_zero, List.set_cons_succ])
              (refine mv_val 8 (v := ?_) rfl (by kernel_rfl) (by kernel_rfl) (by kernel_rfl) (fun _ _ _ h => h) (by rfl) hS ?_ ?_; rotate_left; (focus (intro w hSw; (try dsimp only at hSw); (have f1 := u1; have f2 := HJ.out.symm; have f9 := u9; have f10 := u10; have f3 := u3; have f4 := u4; have f5 := u5; have f6 := u6; have f7 := u7; have f8 := u8); go_simp; first | done | with_reducible rfl)); simp only [Act.put, List.setIfInBounds_toArray, List.set_cons_zero, List.set_cons_succ])
              (refine mv_val 9 (v := ?_) rfl (by kernel_rfl) (by kernel_rfl) (by kernel_rfl) (fun _ _ _ h => h) (by rfl) hS ?_ ?_; rotate_left; (focus (intro w hSw; (try dsimp only at hSw); (have f1 := u1; have f2 := HJ.out.symm; have f9 := u9; have f10 := u10; have f3 := u3; have f4 := u4; have f5 := u5; have f6 := u6; have f7 := u7; have f8 := u8); go_simp; first | done | with_reducible rfl)); simp only [Act.put, List.setIfInBounds_toArray, List.set_cons_zero, List.set_cons_succ])
              (refine mv_val 10 (v := ?_) rfl (by kernel_rfl) (by kernel_rfl) (by kernel_rfl) (fun _ _ _ h => h) (by rfl) hS ?_ ?_; rotate_left; (focus (intro w hSw; (try dsimp only at hSw); (have f1 := u1; have f2 := HJ.out.symm; have f9 := u9; have f10 := u10; have f3 := u3; have f4 := u4; have f5 := u5; have f6 := u6; have f7 := u7; have f8 := u8); go_simp; first | done | with_reducible rfl)); simp only [Act.put, List.setIfInBounds_toArray, List.set_cons_zero, List.set_cons_succ])
              (refine mv_val 11 (v := ?_) rfl (by kernel_rfl) (by kernel_rfl) (by kernel_rfl) (fun _ _ _ h => h) (by rfl) hS ?_ ?_; rotate_left; (focus (intro w hSw; (try dsimp only at hSw); (have f1 := u1; have f2 := HJ.out.symm; have f9 := u9; have f10 := u10; have f3 := u3; have f4 := u4; have f5 := u5; have f6 := u6; have f7 := u7; have f8 := u8); go_simp; first | done | with_reducible rfl)); simp only [Act.put, List.setIfInBounds_toArray, List.set_cons_zero, List.set_cons_succ])
              (refine mv_val 12 (v := ?_) rfl (by kernel_rfl) (by kernel_rfl) (by kernel_rfl) (fun _ _ _ h => h) (by rfl) hS ?_ ?_; rotate_left; (focus (intro w hSw; (try dsimp only at hSw); (have f1 := u1; have f2 := HJ.out.symm; have f9 := u9; have f10 := u10; have f3 := u3; have f4 := u4; have f5 := u5; have f6 := u6; have f7 := u7; have f8 := u8); go_simp; first | done | with_reducible rfl)); simp only [Act.put, List.setIfInBounds_toArray, List.set_cons_zero, List.set_cons_succ])
              (refine mv_val 13 (v := ?_) rfl (by kernel_rfl) (by kernel_rfl) (by kernel_rfl) (fun _ _ _ h => h) (by rfl) hS ?_ ?_; rotate_left; (focus (intro w hSw; (try dsimp only at hSw); (have f1 := u1; have f2 := HJ.out.symm; have f9 := u9; have f10 := u10; have f3 := u3; have f4 := u4; have f5 := u5; have f6 := u6; have f7 := u7; have f8 := u8); go_simp; first | done | with_reducible rfl)); simp only [Act.put, List.setIfInBounds_toArray, List.set_cons_zero, List.set_cons_succ])
              (refine mv_val 14 (v := ?_) rfl (by kernel_rfl) (by kernel_rfl) (by kernel_rfl) (fun _ _ _ h => h) (by rfl) hS ?_ ?_; rotate_left; (focus (intro w hSw; (try dsimp only at hSw); (have f1 := u1; have f2 := HJ.out.symm; have f9 := u9; have f10 := u10; have f3 := u3; have f4 := u4; have f5 := u5; have f6 := u6; have f7 := u7; have f8 := u8); go_simp; first | done | with_reducible rfl)); simp only [Act.put, List.setIfInBounds_toArray, List.set_cons_zero, List.set_cons_succ])
              (refine mv_val 16 (v := ?_) rfl (by kernel_rfl) (by kernel_rfl) (by kernel_rfl) (fun _ _ _ h => h) (by rfl) hS ?_ ?_; rotate_left; (focus (intro w hSw; (try dsimp only at hSw); (have f1 := u1; have f2 := HJ.out.symm; have f9 := u9; have f10 := u10; have f3 := u3; have f4 := u4; have f5 := u5; have f6 := u6; have f7 := u7; have f8 := u8); go_simp; first | done | with_reducible rfl)); simp only [Act.put, List.setIfInBounds_toArray, List.set_cons_zero, List.set_cons_succ])
              (refine mv_val 17 (v := ?_) rfl (by kernel_rfl) (by kernel_rfl) (by kernel_rfl) (fun _ _ _ h => h) (by rfl) hS ?_ ?_; rotate_left; (focus (intro w hSw; (try dsimp only at hSw); (have f1 := u1; have f2 := HJ.out.symm; have f9 := u9; have f10 := u10; have f3 := u3; have f4 := u4; have f5 := u5; have f6 := u6; have f7 := u7; have f8 := u8); go_simp; first | done | with_reducible rfl)); simp only [Act.put, List.setIfInBounds_toArray, List.set_cons_zero, List.set_cons_succ])
              (refine mv_val 18 (v := ?_) rfl (by kernel_rfl) (by kernel_rfl) (by kernel_rfl) (fun _ _ _ h => h) (by rfl) hS ?_ ?_; rotate_left; (focus (intro w hSw; (try dsimp only at hSw); (have f1 := u1; have f2 := HJ.out.symm; have f9 := u9; have f10 := u10; have f3 := u3; have f4 := u4; have f5 := u5; have f6 := u6; have f7 := u7; have f8 := u8); go_simp; first | done | with_reducible rfl)); simp only [Act.put, List.setIfInBounds_toArray, List.set_cons_zero, List.set_cons_succ])
              refine mv_two 15 19 rfl rfl (by kernel_rfl) (by rfl) (by rfl) (fun K hK => ?_) (fun K hK => ?_)
              · skip
                go_simp
                refine hK _ _ ?_ ?_ <;> clear hK K
                · trivial
                try simp only [Act.put, List.setIfInBounds_toArray, List.set_cons_zero, List.set_cons_succ]
                refine mv_step 19 rfl (by kernel_rfl) (by rfl) (fun K hK => ?_)
                go_simp
                refine hK _ _ ?_ ?_ <;> clear hK K
                · trivial
                try simp only [Act.put, List.setIfInBounds_toArray, List.set_cons_zero, List.set_cons_succ]
                (refine mv_val 20 (v := ?_) rfl (by kernel_rfl) (by kernel_rfl) (by kernel_rfl) (fun _ _ _ h => h) (by rfl) hS ?_ ?_; rotate_left; (focus (intro w hSw; (try dsimp only at hSw); (have f1 := u1; have f2 := HJ.out.symm; have f9 := u9; have f10 := u10; have f3 := u3; have f4 := u4; have f5 := u5; have f6 := u6; have f7 := u7; have f8 := u8); go_simp; first | done | with_reducible rfl)); simp only [Act.put, List.setIfInBounds_toArray, List.set_cons_zero, List.set_cons_succ])
                refine mv_step 21 rfl (by kernel_rfl) (by rfl) (fun K hK => ?_)
                go_simp
                refine hK _ _ ?_ ?_ <;> clear hK K
                · trivial
                obtain ⟨wf, hwf⟩ : ∃ wf, wf = (we.setCell ⟨g, k * 2, none⟩ (.int .i64 y.1)).setCell ⟨g, k * 2 + 1, none⟩ (.int .i64 y.2) := ⟨_, rfl⟩
                have o2 := own_set2 ownE (i := k) y (by omega)
                rw [← hwf] at o2 ⊢
                have lf : (L.set k y).length = n := by rw [List.length_set]; exact hLl
                have sf := scells_length (L.set k y)
                have d0 := o2.cellAt (j * 2) (by omega)
                have d1 := o2.cellAt (j * 2 + 1) (by omega)
                have hy2 : (L.set k y)[j]? = some y := by rw [List.getElem?_set_ne (by omega)]; exact HY.out
                rw [(scells_at _ _ _ hy2).1] at d0
                rw [(scells_at _ _ _ hy2).2] at d1
                have fd0 := o2.frozenAt (j * 2)
                have fd1 := o2.frozenAt (j * 2 + 1)
                have b2 : Below w22.heap.size w22 wf := by rw [hwf]; exact (belE.setCell (p := ⟨g, k * 2, none⟩) hg1 _).setCell (p := ⟨g, k * 2 + 1, none⟩) hg1 _
                have OS := Lib.hid (own_set2 o2 (i := j) x (by omega))
                clear o2 lf sf hy2 hwf c0 c1 c2 c3 fc0 fc1
                try simp only [Act.put, List.setIfInBounds_toArray, List.set_cons_zero, List.set_cons_succ]
                (refine mv_val 22 (v := ?_) rfl (by kernel_rfl) (by kernel_rfl) (by kernel_rfl) (fun _ _ _ h => h) (by rfl) hS ?_ ?_; rotate_left; (focus (intro w hSw; (try dsimp only at hSw); (have f1 := u1; have f2 := HJ.out.symm; have f9 := u9; have f10 := u10; have f3 := u3; have f4 := u4; have f5 := u5; have f6 := u6; have f7 := u7; have f8 := u8); go_simp; first | done | with_reducible rfl)); simp only [Act.put, List.setIfInBounds_toArray, List.set_cons_zero, List.set_cons_succ])
                refine mv_step 23 rfl (by kernel_rfl) (by rfl) (fun K hK => ?_)
                go_simp
                refine hK _ _ ?_ ?_ <;> clear hK K
                · trivial
                try simp only [Act.put, List.setIfInBounds_toArray, List.set_cons_zero, List.set_cons_succ]
                refine wpAnyH_done (by kernel_rfl) ?_ _
                go_wp2_with fail
                go_roundw
                case rel => exact ⟨k + 1, (L.set k y).set j x, by omega, by go_num, by rw [List.length_set, List.length_set]; exact hLl, fun u => by rw [hasB_swap HX.out HY.out]; exact HLH.out u, OS.out, (b2.setCell (p := ⟨g, j * 2, none⟩) hg1 _).setCell (p := ⟨g, j * 2 + 1, none⟩) hg1 _⟩
                case measure => simp [intOf]; omega
              · skip
                go_simp
                refine hK _ _ ?_ ?_ <;> clear hK K
                · trivial
                try simp only [Act.put, List.setIfInBounds_toArray, List.set_cons_zero, List.set_cons_succ]
                refine mv_step 15 rfl (by kernel_rfl) (by rfl) (fun K hK => ?_)
                go_simp
                refine hK _ _ ?_ ?_ <;> clear hK K
                · trivial
                try simp only [Act.put, List.setIfInBounds_toArray, List.set_cons_zero, List.set_cons_succ]
                (refine mv_val 20 (v := ?_) rfl (by kernel_rfl) (by kernel_rfl) (by kernel_rfl) (fun _ _ _ h => h) (by rfl) hS ?_ ?_; rotate_left; (focus (intro w hSw; (try dsimp only at hSw); (have f1 := u1; have f2 := HJ.out.symm; have f9 := u9; have f10 := u10; have f3 := u3; have f4 := u4; have f5 := u5; have f6 := u6; have f7 := u7; have f8 := u8); go_simp; first | done | with_reducible rfl)); simp only [Act.put, List.setIfInBounds_toArray, List.set_cons_zero, List.set_cons_succ])
                refine mv_step 21 rfl (by kernel_rfl) (by rfl) (fun K hK => ?_)
                go_simp
                refine hK _ _ ?_ ?_ <;> clear hK K
                · trivial
                obtain ⟨wf, hwf⟩ : ∃ wf, wf = (we.setCell ⟨g, k * 2, none⟩ (.int .i64 y.1)).setCell ⟨g, k * 2 + 1, none⟩ (.int .i64 y.2) := ⟨_, rfl⟩
                have o2 := own_set2 ownE (i := k) y (by omega)
                rw [← hwf] at o2 ⊢
                have lf : (L.set k y).length = n := by rw [List.length_set]; exact hLl
                have sf := scells_length (L.set k y)
                have d0 := o2.cellAt (j * 2) (by omega)
                have d1 := o2.cellAt (j * 2 + 1) (by omega)
                have hy2 : (L.set k y)[j]? = some y := by rw [List.getElem?_set_ne (by omega)]; exact HY.out
                rw [(scells_at _ _ _ hy2).1] at d0
                rw [(scells_at _ _ _ hy2).2] at d1
                have fd0 := o2.frozenAt (j * 2)
                have fd1 := o2.frozenAt (j * 2 + 1)
                have b2 : Below w22.heap.size w22 wf := by rw [hwf]; exact (belE.setCell (p := ⟨g, k * 2, none⟩) hg1 _).setCell (p := ⟨g, k * 2 + 1, none⟩) hg1 _
                have OS := Lib.hid (own_set2 o2 (i := j) x (by omega))
                clear o2 lf sf hy2 hwf c0 c1 c2 c3 fc0 fc1
                try simp only [Act.put, List.setIfInBounds_toArray, List.set_cons_zero, List.set_cons_succ]
                (refine mv_val 22 (v := ?_) rfl (by kernel_rfl) (by kernel_rfl) (by kernel_rfl) (fun _ _ _ h => h) (by rfl) hS ?_ ?_; rotate_left; (focus (intro w hSw; (try dsimp only at hSw); (have f1 := u1; have f2 := HJ.out.symm; have f9 := u9; have f10 := u10; have f3 := u3; have f4 := u4; have f5 := u5; have f6 := u6; have f7 := u7; have f8 := u8); go_simp; first | done | with_reducible rfl)); simp only [Act.put, List.setIfInBounds_toArray, List.set_cons_zero, List.set_cons_succ])
                refine mv_step 23 rfl (by kernel_rfl) (by rfl) (fun K hK => ?_)
                go_simp
                refine hK _ _ ?_ ?_ <;> clear hK K
                · trivial
                try simp only [Act.put, List.setIfInBounds_toArray, List.set_cons_zero, List.set_cons_succ]
                refine wpAnyH_done (by kernel_rfl) ?_ _
                go_wp2_with fail
                go_roundw
                case rel => exact ⟨k + 1, (L.set k y).set j x, by omega, by go_num, by rw [List.length_set, List.length_set]; exact hLl, fun u => by rw [hasB_swap HX.out HY.out]; exact HLH.out u, OS.out, (b2.setCell (p := ⟨g, j * 2, none⟩) hg1 _).setCell (p := ⟨g, j * 2 + 1, none⟩) hg1 _⟩
                case measure => simp [intOf]; omega
            case neg =>
              have hgI : ¬ ((k : Int) < (a.length : Int).tdiv 2) := by rw [hdv]; omega
              have hgI2 : ¬ ((k : Int) < (a.length : Int) / 2) := by omega
              have ra2 := r_a.next hbel
              have hal := scells_length a
              have hzM := hbel.size
              have HLl := Lib.hid hLl
              clear hLl hdv hlt
              go_wp2_with (at_builtin; refine wpList_app HEL rfl _ _ rfl hown rfl rfl ra2 hal (scells_one a) (by unfold maxLen; omega) (by have : (a.length + a.length) * by_ ≤ 1000 * 64 := Nat.mul_le_mul (by omega) hby; omega) hzM ?_; intro v6 w6 hown6 hg6 _; rw [← scells_append] at hown6; obtain ⟨A_z, c_z, rfl, _⟩ := own_form hown6)
              have b6 : Below w22.heap.size w22 w6 := hbel.trans (own_below hown hg6 hzM)
              have KO := kOf (c := c_z) (H_f3.out L HLH.out) (by rw [List.length_append]; have := HLl.out; omega) (rd_own hown6)
              rw [List.length_append, HLl.out] at KO
              have HKO := Lib.hid KO
              clear KO hown6 hg6 hown ra2 hal
              replace r_a := r_a.next b6
              replace r_f := r_f.next b6
              replace B0 := B0.trans (b6.mono B0.size)
              clear b6
              refine (HKO.out).mono ?_; rintro e w101 ⟨A_z, c_z, rfl, o_z, q101⟩
              replace r_a := r_a.next q101
              replace r_f := r_f.next q101
              replace B0 := B0.trans (q101.mono B0.size)
              have r_z := rd_own o_z
              clear o_z q101
              go_wp2_with fail
              refine (kEqual (by omega) r_z r_f).mono ?_; rintro e w102 ⟨rfl, q102⟩
              replace r_a := r_a.next q102
              replace r_f := r_f.next q102
              replace r_z := r_z.next q102
              replace B0 := B0.trans (q102.mono B0.size)
              clear q102
              go_wp2_with fail
              refine (kOf H_f2.out (by omega) r_f).mono ?_; rintro e w103 ⟨A_z2, c_z2, rfl, o_z2, q103⟩
              replace r_a := r_a.next q103
              replace r_f := r_f.next q103
              replace r_z := r_z.next q103
              replace B0 := B0.trans (q103.mono B0.size)
              have r_z2 := rd_own o_z2
              clear o_z2 q103
              go_wp2_with fail
              refine (kEqual (by omega) r_z2 r_f).mono ?_; rintro e w104 ⟨rfl, q104⟩
              replace r_a := r_a.next q104
              replace r_f := r_f.next q104
              replace r_z := r_z.next q104
              replace r_z2 := r_z2.next q104
              replace B0 := B0.trans (q104.mono B0.size)
              clear q104
              go_wp2_with fail
              refine (kSame H_s.out ⟨by omega, by omega⟩ r_a r_f).mono ?_; rintro e w105 ⟨rfl, q105⟩
              replace r_a := r_a.next q105
              replace r_f := r_f.next q105
              replace r_z := r_z.next q105
              replace r_z2 := r_z2.next q105
              replace B0 := B0.trans (q105.mono B0.size)
              clear q105
              go_wp2_with fail
              refine (wakes_any _).mono ?_; rintro e w106 ⟨rfl, q106⟩
              replace r_a := r_a.next q106
              replace r_f := r_f.next q106
              replace r_z := r_z.next q106
              replace r_z2 := r_z2.next q106
              replace B0 := B0.trans (q106.mono B0.size)
              clear q106
              go_wp2_with fail
              go_ret
              exact ⟨rfl, B0⟩
end Go.Proofs.Ytiohdacbnigpkaa

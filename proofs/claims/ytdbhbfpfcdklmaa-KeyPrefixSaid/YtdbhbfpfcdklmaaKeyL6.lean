/- The law KeyPrefix (layer 3), walked: true for every input. No condition. -/
import Derived.Test.YtdbhbfpfcdklmaaKeyL4
import Derived.Test.YtdbhbfpfcdklmaaKeyQ2
namespace Go.Proofs.Ytdbhbfpfcdklmaa
open Go.RowKit
set_option linter.unusedVariables false
set_option linter.unusedSimpArgs false

theorem vcells_take (l : List V) (n : Nat) : vcells (l.take n) = (vcells l).take (n * 3) := by
  conv => rhs; rw [← List.take_append_drop n l, vcells_append]
  rcases Nat.lt_or_ge n l.length with h | h
  · rw [List.take_left' (by rw [vcells_length, List.length_take]; omega)]
  · rw [List.take_of_length_le h, List.drop_of_length_le h, vcells_nil, List.append_nil, List.take_of_length_le (by rw [vcells_length]; omega)]

set_option maxHeartbeats 4000000 in
set_option maxRecDepth 100000 in
theorem keyPrefix_walk (A : Option Addr) (c : Nat) (a : List V) (A' : Option Addr) (c' : Nat) (b : List V) (W : World) (ha : Rd W W.heap.size A (vcells a)) (hac : a.length ≤ c ∧ c ≤ maxLen) (hoka : ∀ v ∈ a, vok v)
    (hb : Rd W W.heap.size A' (vcells b)) (hbc : b.length ≤ c' ∧ c' ≤ maxLen) (hokb : ∀ v ∈ b, vok v) :
    Calls Try.prog 8 #[.slice A a.length c, .slice A' b.length c'] W fun e w' => e = .returned (.bool true) ∧ Below W.heap.size W w' := by
  obtain ⟨by_, HEL, hby⟩ := El_val
  have KA := Lib.hid (fun w => long_any W.heap.size A c a w)
  have KB := Lib.hid (fun w => long_any W.heap.size A' c' b w)
  obtain ⟨la, hla⟩ : ∃ x, x = lng a := ⟨_, rfl⟩
  obtain ⟨lb, hlb⟩ : ∃ x, x = lng b := ⟨_, rfl⟩
  rw [← hla] at KA
  rw [← hlb] at KB
  rcases la with _ | _
  case true =>
    clear hla hlb
    go_enter Try.func8, Try.ntmps8
    go_wp2_with fail
    refine (KA.out W ha (Nat.le_refl _)).mono ?_; rintro e w1 ⟨rfl, hb1⟩
    go_wp2_with fail
    refine (keys_any w1).mono ?_; rintro e w2 ⟨rfl, hb2⟩
    have hb02 : Below W.heap.size W w2 := hb1.trans (hb2.mono hb1.size)
    go_wp2_with fail
    go_ret
    exact ⟨rfl, hb02⟩
  rcases lb with _ | _
  case true =>
    clear hla hlb
    go_enter Try.func8, Try.ntmps8
    go_wp2_with fail
    refine (KA.out W ha (Nat.le_refl _)).mono ?_; rintro e w1 ⟨rfl, hb1⟩
    go_wp2_with fail
    refine (KB.out w1 (hb.below hb1) hb1.size).mono ?_; rintro e w2 ⟨rfl, hb2⟩
    have hb02 : Below W.heap.size W w2 := hb1.trans (hb2.mono hb1.size)
    go_wp2_with fail
    refine (keys_any w2).mono ?_; rintro e w3 ⟨rfl, hb3⟩
    have hb03 : Below W.heap.size W w3 := hb02.trans (hb3.mono hb02.size)
    go_wp2_with fail
    go_ret
    exact ⟨rfl, hb03⟩
  obtain ⟨ha30, _, hfa⟩ := lng_false hla.symm
  obtain ⟨hb30, _, hfb⟩ := lng_false hlb.symm
  have HOA := Lib.hid (vok2 hoka)
  have HOB := Lib.hid (vok2 hokb)
  clear hla hlb hoka hokb
  have M1 := Lib.hid (fun w h hB => mayL_any W.heap.size A c a w h hB (by unfold maxLen; omega) (fun v hv => (HOA.out v hv).1))
  have M2 := Lib.hid (fun w h hB => mayL_any W.heap.size A' c' b w h hB (by unfold maxLen; omega) (fun v hv => (HOB.out v hv).1))
  obtain ⟨ma, hma⟩ : ∃ x, x = a.all mayB := ⟨_, rfl⟩
  obtain ⟨mb, hmb⟩ : ∃ x, x = b.all mayB := ⟨_, rfl⟩
  rw [← hma] at M1
  rw [← hmb] at M2
  rcases ma with _ | _
  case false =>
    clear hma hmb
    go_enter Try.func8, Try.ntmps8
    go_wp2_with fail
    refine (KA.out W ha (Nat.le_refl _)).mono ?_; rintro e w1 ⟨rfl, hb1⟩
    go_wp2_with fail
    refine (KB.out w1 (hb.below hb1) hb1.size).mono ?_; rintro e w2 ⟨rfl, hb2⟩
    have hb02 : Below W.heap.size W w2 := hb1.trans (hb2.mono hb1.size)
    go_wp2_with fail
    refine (M1.out w2 (ha.below hb02) hb02.size).mono ?_; rintro e w3 ⟨rfl, hb3⟩
    have hb03 : Below W.heap.size W w3 := hb02.trans (hb3.mono hb02.size)
    go_wp2_with fail
    refine (keys_any w3).mono ?_; rintro e w4 ⟨rfl, hb4⟩
    have hb04 : Below W.heap.size W w4 := hb03.trans (hb4.mono hb03.size)
    go_wp2_with fail
    go_ret
    exact ⟨rfl, hb04⟩
  rcases mb with _ | _
  case false =>
    clear hma hmb
    go_enter Try.func8, Try.ntmps8
    go_wp2_with fail
    refine (KA.out W ha (Nat.le_refl _)).mono ?_; rintro e w1 ⟨rfl, hb1⟩
    go_wp2_with fail
    refine (KB.out w1 (hb.below hb1) hb1.size).mono ?_; rintro e w2 ⟨rfl, hb2⟩
    have hb02 : Below W.heap.size W w2 := hb1.trans (hb2.mono hb1.size)
    go_wp2_with fail
    refine (M1.out w2 (ha.below hb02) hb02.size).mono ?_; rintro e w3 ⟨rfl, hb3⟩
    have hb03 : Below W.heap.size W w3 := hb02.trans (hb3.mono hb02.size)
    go_wp2_with fail
    refine (M2.out w3 (hb.below hb03) hb03.size).mono ?_; rintro e w4 ⟨rfl, hb4⟩
    have hb04 : Below W.heap.size W w4 := hb03.trans (hb4.mono hb03.size)
    go_wp2_with fail
    refine (keys_any w4).mono ?_; rintro e w5 ⟨rfl, hb5⟩
    have hb05 : Below W.heap.size W w5 := hb04.trans (hb5.mono hb04.size)
    go_wp2_with fail
    go_ret
    exact ⟨rfl, hb05⟩
  have hga := good_all hma.symm HOA.out
  have hgb := good_all hmb.symm HOB.out
  have hka := kapp_may hma.symm
  have hkb := kapp_may hmb.symm
  have hkc : kapp (F a) b = (F a ++ F b, 0) := by unfold kapp; rw [if_pos hmb.symm]
  have hkd : kapp [] (a ++ b) = (F a ++ F b, 0) := by
    rw [kapp_may (by rw [List.all_append, ← hma, ← hmb]; rfl), F_append]
  have hq := begins_inside a b hga hgb
  have hin := inside_app (F a) b
  have hfal : (F a).length ≤ 18270 := hfa
  have hfbl : (F b).length ≤ 18270 := hfb
  have hfab : ((a ++ b).flatMap kone).length ≤ 36540 := by
    have := congrArg List.length (F_append a b)
    rw [List.length_append] at this
    show (F (a ++ b)).length ≤ _
    omega
  have H1 := fun w h hB => Append_any W.heap.size none A 0 c [] a w (.inl rfl) h hB (by rw [List.length_nil]; omega) (by omega) HOA.out
  have H2 := fun w h hB => Append_any W.heap.size none A' 0 c' [] b w (.inl rfl) h hB (by rw [List.length_nil]; omega) (by omega) HOB.out
  have H3 := fun (Ax : Option Addr) (cx : Nat) (w : World) h h' => Append_any w.heap.size Ax A' cx c' (F a) b w h h' (Nat.le_refl _) (by omega) (by omega) HOB.out
  have H4 := fun (Ax : Option Addr) (cx : Nat) (w : World) h => Append_any w.heap.size none Ax 0 cx [] (a ++ b) w (.inl rfl) h (Nat.le_refl _) (by rw [List.length_nil]; omega) (by rw [List.length_append]; omega) (fun v hv => by
    rcases List.mem_append.1 hv with h | h
    · exact HOA.out v h
    · exact HOB.out v h)
  have AF := fun (Ax : Option Addr) (cx : Nat) (w : World) h => After_any w.heap.size Ax cx (F a) w h (Nat.le_refl _) (by omega)
  rw [hka] at H1
  rw [hkb] at H2
  rw [hkc] at H3
  rw [hkd] at H4
  rw [List.length_append] at H4
  have hin2 : inside (F a) (F b) = (!bl (F b) (F a) && bl (F b) (F a ++ [255])) := rfl
  obtain ⟨q, hqq⟩ : ∃ q, q = inside (F a) (F b) := ⟨_, rfl⟩
  rw [← hqq] at hq hin2
  generalize hxs : F a = xs at *
  generalize hys : F b = ys at *
  have hbapp := bytes_app xs ys
  obtain ⟨z, hz⟩ : ∃ z, z = xs ++ [255] := ⟨_, rfl⟩
  obtain ⟨p, hp⟩ : ∃ p, p = xs ++ ys := ⟨_, rfl⟩
  have hpl : p.length ≤ 36540 := by rw [hp, List.length_append]; omega
  rw [← hz] at hin hin2 AF
  rw [← hp] at hin H3 H4 hbapp
  have HBA := Lib.hid hbapp
  clear hz hp hbapp
  have G1 := Lib.hid H1
  have G2 := Lib.hid H2
  have G3 := Lib.hid H3
  have G4 := Lib.hid H4
  have GF := Lib.hid AF
  have HQ := Lib.hid hq
  have HIN := Lib.hid hin
  have HI2 := Lib.hid hin2
  clear H1 H2 H3 H4 AF hka hkb hkc hkd hq hin hin2 hga hgb hma hmb hxs hys hqq
  go_enter Try.func8, Try.ntmps8
  go_wp2_with fail
  refine (KA.out W ha (Nat.le_refl _)).mono ?_; rintro e w1 ⟨rfl, hb1⟩
  go_wp2_with fail
  refine (KB.out w1 (hb.below hb1) hb1.size).mono ?_; rintro e w2 ⟨rfl, hb2⟩
  have hb02 : Below W.heap.size W w2 := hb1.trans (hb2.mono hb1.size)
  go_wp2_with fail
  refine (M1.out w2 (ha.below hb02) hb02.size).mono ?_; rintro e w3 ⟨rfl, hb3⟩
  have hb03 : Below W.heap.size W w3 := hb02.trans (hb3.mono hb02.size)
  go_wp2_with fail
  refine (M2.out w3 (hb.below hb03) hb03.size).mono ?_; rintro e w4 ⟨rfl, hb4⟩
  have hb04 : Below W.heap.size W w4 := hb03.trans (hb4.mono hb03.size)
  go_wp2_with fail
  refine (G1.out w4 (ha.below hb04) hb04.size).mono ?_; rintro e w5 ⟨A5, c5, rfl, hown5, hb5⟩
  have hb05 : Below W.heap.size W w5 := hb04.trans (hb5.mono hb04.size)
  dsimp only at hown5 ⊢
  go_wp2_with fail
  refine (G2.out w5 (hb.below hb05) hb05.size).mono ?_; rintro e w6 ⟨A6, c6, rfl, hown6, hb6⟩
  have hb06 : Below W.heap.size W w6 := hb05.trans (hb6.mono hb05.size)
  dsimp only at hown6 ⊢
  go_upto_region 5 with (fail)
  go_cut [9] (fun v9 wx => v9 = .bool q ∧ Below w6.heap.size w6 wx)
  case first =>
    by_cases hab : a.length ≤ b.length
    · have hI : (a.length : Int) ≤ (b.length : Int) := by omega
      have hlen : (b.take a.length).length = a.length := by rw [List.length_take]; omega
      have S1 := Same_any W.heap.size A A' c c' a (b.take a.length) w6 (ha.below hb06) (by rw [vcells_take]; exact (hb.below hb06).take _) hb06.size (by unfold maxLen; omega)
      rw [hlen] at S1
      have hqv : decide (a = b.take a.length) = q := by
        have := HQ.out
        rwa [decide_eq_true hab, Bool.true_and] at this
      rw [hqv] at S1
      have HS1 := Lib.hid S1
      clear S1 hqv hlen
      go_wp2_with fail
      refine (HS1.out).mono ?_; rintro e w7 ⟨rfl, hb7⟩
      go_wp2_with fail
      go_meet
      exact ⟨rfl, hb7⟩
    · have hI : ¬ ((a.length : Int) ≤ (b.length : Int)) := by omega
      have hqv : false = q := by
        have := HQ.out
        rwa [decide_eq_false hab, Bool.false_and] at this
      have HQV := Lib.hid hqv
      clear hqv
      go_wp2_with fail
      go_meet
      exact ⟨by rw [← HQV.out], Below.refl _ _⟩
  case rest =>
    obtain ⟨rfl, hcut⟩ := hcut
    have hb0c : Below W.heap.size W wc := hb06.trans (hcut.mono hb06.size)
    have hown5c := own_bel (own_bel hown5 hb6) hcut
    have hown6c := own_bel hown6 hcut
    clear hown5 hown6 hcut hb6 hb5 hb4 hb3 hb2 hb06 hb05 hb04 hb03 hb02 hb1 HQ G1 G2 KA KB M1 M2
    have CV1 : ∀ w', Below wc.heap.size wc w' → (convert 22 9 (.slice A5 xs.length c5)).run Try.prog w' = .ok (.string ⟨xs.toArray⟩) w' := fun w' h => conv_own (own_bel hown5c h)
    have CV2 : ∀ w', Below wc.heap.size wc w' → (convert 22 9 (.slice A6 ys.length c6)).run Try.prog w' = .ok (.string ⟨ys.toArray⟩) w' := fun w' h => conv_own (own_bel hown6c h)
    go_upto_region 6 with (fail)
    go_cut [10] (fun v10 wx => v10 = .bool q ∧ Below wc.heap.size wc wx)
    case first =>
      by_cases hyx : bl ys xs = true
      · have hqv : false = q := by rw [HI2.out, hyx]; rfl
        have HQV := Lib.hid hqv
        clear hqv
        refine ah_start 14 (fun w' => Below wc.heap.size wc w') rfl (by kernel_rfl) (Below.refl _ _).drew ?_ ; intro hS
        (refine mv_val 0 (v := ?_) rfl (by kernel_rfl) (by kernel_rfl) (by kernel_rfl) (fun _ _ _ h => h) (by rfl) hS ?_ ?_; rotate_left; (focus (intro w hSw; (try dsimp only at hSw); (have f1 := CV1 w hSw; have f2 := CV2 w hSw; have f3 := hyx); go_simp; first | done | with_reducible rfl)); simp only [Act.put, List.setIfInBounds_toArray, List.set_cons_zero, List.set_cons_succ])
        (refine mv_val 1 (v := ?_) rfl (by kernel_rfl) (by kernel_rfl) (by kernel_rfl) (fun _ _ _ h => h) (by rfl) hS ?_ ?_; rotate_left; (focus (intro w hSw; (try dsimp only at hSw); (have f1 := CV1 w hSw; have f2 := CV2 w hSw; have f3 := hyx); go_simp; first | done | with_reducible rfl)); simp only [Act.put, List.setIfInBounds_toArray, List.set_cons_zero, List.set_cons_succ])
        (refine mv_val 2 (v := ?_) rfl (by kernel_rfl) (by kernel_rfl) (by kernel_rfl) (fun _ _ _ h => h) (by rfl) hS ?_ ?_; rotate_left; (focus (intro w hSw; (try dsimp only at hSw); (have f1 := CV1 w hSw; have f2 := CV2 w hSw; have f3 := hyx); go_simp; first | done | with_reducible rfl)); simp only [Act.put, List.setIfInBounds_toArray, List.set_cons_zero, List.set_cons_succ])
        (refine mv_val 3 (v := ?_) rfl (by kernel_rfl) (by kernel_rfl) (by kernel_rfl) (fun _ _ _ h => h) (by rfl) hS ?_ ?_; rotate_left; (focus (intro w hSw; (try dsimp only at hSw); (have f1 := CV1 w hSw; have f2 := CV2 w hSw; have f3 := hyx); go_simp; first | done | with_reducible rfl)); simp only [Act.put, List.setIfInBounds_toArray, List.set_cons_zero, List.set_cons_succ])
        (refine mv_val 4 (v := ?_) rfl (by kernel_rfl) (by kernel_rfl) (by kernel_rfl) (fun _ _ _ h => h) (by rfl) hS ?_ ?_; rotate_left; (focus (intro w hSw; (try dsimp only at hSw); (have f1 := CV1 w hSw; have f2 := CV2 w hSw; have f3 := hyx); go_simp; first | done | with_reducible rfl)); simp only [Act.put, List.setIfInBounds_toArray, List.set_cons_zero, List.set_cons_succ])
        (refine mv_val 5 (v := ?_) rfl (by kernel_rfl) (by kernel_rfl) (by kernel_rfl) (fun _ _ _ h => h) (by rfl) hS ?_ ?_; rotate_left; (focus (intro w hSw; (try dsimp only at hSw); (have f1 := CV1 w hSw; have f2 := CV2 w hSw; have f3 := hyx); go_simp; first | done | with_reducible rfl)); simp only [Act.put, List.setIfInBounds_toArray, List.set_cons_zero, List.set_cons_succ])
        (refine mv_skip 6 rfl (by kernel_rfl) (by kernel_rfl) (by kernel_rfl) (fun _ _ _ h => h) (by rfl) hS ?_; simp only [Act.put, List.setIfInBounds_toArray, List.set_cons_zero, List.set_cons_succ])
        (refine mv_skip 7 rfl (by kernel_rfl) (by kernel_rfl) (by kernel_rfl) (fun _ _ _ h => h) (by rfl) hS ?_; simp only [Act.put, List.setIfInBounds_toArray, List.set_cons_zero, List.set_cons_succ])
        (refine mv_skip 8 rfl (by kernel_rfl) (by kernel_rfl) (by kernel_rfl) (fun _ _ _ h => h) (by rfl) hS ?_; simp only [Act.put, List.setIfInBounds_toArray, List.set_cons_zero, List.set_cons_succ])
        (refine mv_skip 9 rfl (by kernel_rfl) (by kernel_rfl) (by kernel_rfl) (fun _ _ _ h => h) (by rfl) hS ?_; simp only [Act.put, List.setIfInBounds_toArray, List.set_cons_zero, List.set_cons_succ])
        (refine mv_skip 10 rfl (by kernel_rfl) (by kernel_rfl) (by kernel_rfl) (fun _ _ _ h => h) (by rfl) hS ?_; simp only [Act.put, List.setIfInBounds_toArray, List.set_cons_zero, List.set_cons_succ])
        (refine mv_skip 11 rfl (by kernel_rfl) (by kernel_rfl) (by kernel_rfl) (fun _ _ _ h => h) (by rfl) hS ?_; simp only [Act.put, List.setIfInBounds_toArray, List.set_cons_zero, List.set_cons_succ])
        (refine mv_val 12 (v := ?_) rfl (by kernel_rfl) (by kernel_rfl) (by kernel_rfl) (fun _ _ _ h => h) (by rfl) hS ?_ ?_; rotate_left; (focus (intro w hSw; (try dsimp only at hSw); (have f1 := CV1 w hSw; have f2 := CV2 w hSw; have f3 := hyx); go_simp; first | done | with_reducible rfl)); simp only [Act.put, List.setIfInBounds_toArray, List.set_cons_zero, List.set_cons_succ])
        (refine mv_val 13 (v := ?_) rfl (by kernel_rfl) (by kernel_rfl) (by kernel_rfl) (fun _ _ _ h => h) (by rfl) hS ?_ ?_; rotate_left; (focus (intro w hSw; (try dsimp only at hSw); (have f1 := CV1 w hSw; have f2 := CV2 w hSw; have f3 := hyx); go_simp; first | done | with_reducible rfl)); simp only [Act.put, List.setIfInBounds_toArray, List.set_cons_zero, List.set_cons_succ])
        refine wpAnyH_done (by kernel_rfl) ?_ _
        go_wp2_with fail
        go_meet
        exact ⟨by rw [← HQV.out], hS⟩
      · have hyf : bl ys xs = false := by simpa using hyx
        have hqv : bl ys z = q := by rw [HI2.out, hyf]; rfl
        have HQV := Lib.hid hqv
        clear hyx hqv
        refine ah_start 14 (fun w' => Below wc.heap.size wc w') rfl (by kernel_rfl) (Below.refl _ _).drew ?_ ; intro hS
        (refine mv_val 0 (v := ?_) rfl (by kernel_rfl) (by kernel_rfl) (by kernel_rfl) (fun _ _ _ h => h) (by rfl) hS ?_ ?_; rotate_left; (focus (intro w hSw; (try dsimp only at hSw); (have f1 := CV1 w hSw; have f2 := CV2 w hSw; have f3 := hyf); go_simp; first | done | with_reducible rfl)); simp only [Act.put, List.setIfInBounds_toArray, List.set_cons_zero, List.set_cons_succ])
        (refine mv_val 1 (v := ?_) rfl (by kernel_rfl) (by kernel_rfl) (by kernel_rfl) (fun _ _ _ h => h) (by rfl) hS ?_ ?_; rotate_left; (focus (intro w hSw; (try dsimp only at hSw); (have f1 := CV1 w hSw; have f2 := CV2 w hSw; have f3 := hyf); go_simp; first | done | with_reducible rfl)); simp only [Act.put, List.setIfInBounds_toArray, List.set_cons_zero, List.set_cons_succ])
        (refine mv_val 2 (v := ?_) rfl (by kernel_rfl) (by kernel_rfl) (by kernel_rfl) (fun _ _ _ h => h) (by rfl) hS ?_ ?_; rotate_left; (focus (intro w hSw; (try dsimp only at hSw); (have f1 := CV1 w hSw; have f2 := CV2 w hSw; have f3 := hyf); go_simp; first | done | with_reducible rfl)); simp only [Act.put, List.setIfInBounds_toArray, List.set_cons_zero, List.set_cons_succ])
        (refine mv_val 3 (v := ?_) rfl (by kernel_rfl) (by kernel_rfl) (by kernel_rfl) (fun _ _ _ h => h) (by rfl) hS ?_ ?_; rotate_left; (focus (intro w hSw; (try dsimp only at hSw); (have f1 := CV1 w hSw; have f2 := CV2 w hSw; have f3 := hyf); go_simp; first | done | with_reducible rfl)); simp only [Act.put, List.setIfInBounds_toArray, List.set_cons_zero, List.set_cons_succ])
        (refine mv_val 4 (v := ?_) rfl (by kernel_rfl) (by kernel_rfl) (by kernel_rfl) (fun _ _ _ h => h) (by rfl) hS ?_ ?_; rotate_left; (focus (intro w hSw; (try dsimp only at hSw); (have f1 := CV1 w hSw; have f2 := CV2 w hSw; have f3 := hyf); go_simp; first | done | with_reducible rfl)); simp only [Act.put, List.setIfInBounds_toArray, List.set_cons_zero, List.set_cons_succ])
        (refine mv_val 5 (v := ?_) rfl (by kernel_rfl) (by kernel_rfl) (by kernel_rfl) (fun _ _ _ h => h) (by rfl) hS ?_ ?_; rotate_left; (focus (intro w hSw; (try dsimp only at hSw); (have f1 := CV1 w hSw; have f2 := CV2 w hSw; have f3 := hyf); go_simp; first | done | with_reducible rfl)); simp only [Act.put, List.setIfInBounds_toArray, List.set_cons_zero, List.set_cons_succ])
        (refine mv_val 6 (v := ?_) rfl (by kernel_rfl) (by kernel_rfl) (by kernel_rfl) (fun _ _ _ h => h) (by rfl) hS ?_ ?_; rotate_left; (focus (intro w hSw; (try dsimp only at hSw); (have f1 := CV1 w hSw; have f2 := CV2 w hSw; have f3 := hyf); go_simp; first | done | with_reducible rfl)); simp only [Act.put, List.setIfInBounds_toArray, List.set_cons_zero, List.set_cons_succ])
        (refine mv_val 7 (v := ?_) rfl (by kernel_rfl) (by kernel_rfl) (by kernel_rfl) (fun _ _ _ h => h) (by rfl) hS ?_ ?_; rotate_left; (focus (intro w hSw; (try dsimp only at hSw); (have f1 := CV1 w hSw; have f2 := CV2 w hSw; have f3 := hyf); go_simp; first | done | with_reducible rfl)); simp only [Act.put, List.setIfInBounds_toArray, List.set_cons_zero, List.set_cons_succ])
        (refine mv_val 8 (v := ?_) rfl (by kernel_rfl) (by kernel_rfl) (by kernel_rfl) (fun _ _ _ h => h) (by rfl) hS ?_ ?_; rotate_left; (focus (intro w hSw; (try dsimp only at hSw); (have f1 := CV1 w hSw; have f2 := CV2 w hSw; have f3 := hyf); go_simp; first | done | with_reducible rfl)); simp only [Act.put, List.setIfInBounds_toArray, List.set_cons_zero, List.set_cons_succ])
        (refine mv_call 9 (f := ?_) (args := ?_) rfl (by kernel_rfl) (by rfl) ?_ ?_; rotate_left 2; (focus (go_simp; first | done | with_reducible rfl | (refine ⟨?_, ?_⟩ <;> with_reducible rfl))))
        refine (GF.out A5 c5 _ (rd_own (own_bel hown5c hS))).mono ?_; rintro e w7 ⟨A7, c7, rfl, hown7, hb7⟩
        have hS7 : Below wc.heap.size wc w7 := hS.trans (hb7.mono hS.size)
        refine ⟨_, rfl, hS7, ?_⟩
        refine ah_mono (S' := fun w' => Below wc.heap.size wc w' ∧ Below w7.heap.size w7 w') (fun w h => h.1) _ _ _ _ ?_
        replace hS : Below wc.heap.size wc w7 ∧ Below w7.heap.size w7 w7 := ⟨hS7, Below.refl _ _⟩
        have CV3 : ∀ w', Below w7.heap.size w7 w' → (convert 22 9 (.slice A7 z.length c7)).run Try.prog w' = .ok (.string ⟨z.toArray⟩) w' := fun w' h => conv_own (own_bel hown7 h)
        simp only [Act.put, List.setIfInBounds_toArray, List.set_cons_zero, List.set_cons_succ]
        (refine mv_val 10 (v := ?_) rfl (by kernel_rfl) (by kernel_rfl) (by kernel_rfl) (fun _ _ _ h => h) (by rfl) hS ?_ ?_; rotate_left; (focus (intro w hSw; (try dsimp only at hSw); (have f1 := CV1 w hSw.1; have f2 := CV2 w hSw.1; have f3 := hyf; have f4 := CV3 w hSw.2; have f5 := HQV.out); go_simp; first | done | with_reducible rfl)); simp only [Act.put, List.setIfInBounds_toArray, List.set_cons_zero, List.set_cons_succ])
        (refine mv_val 11 (v := ?_) rfl (by kernel_rfl) (by kernel_rfl) (by kernel_rfl) (fun _ _ _ h => h) (by rfl) hS ?_ ?_; rotate_left; (focus (intro w hSw; (try dsimp only at hSw); (have f1 := CV1 w hSw.1; have f2 := CV2 w hSw.1; have f3 := hyf; have f4 := CV3 w hSw.2; have f5 := HQV.out); go_simp; first | done | with_reducible rfl)); simp only [Act.put, List.setIfInBounds_toArray, List.set_cons_zero, List.set_cons_succ])
        (refine mv_val 12 (v := ?_) rfl (by kernel_rfl) (by kernel_rfl) (by kernel_rfl) (fun _ _ _ h => h) (by rfl) hS ?_ ?_; rotate_left; (focus (intro w hSw; (try dsimp only at hSw); (have f1 := CV1 w hSw.1; have f2 := CV2 w hSw.1; have f3 := hyf; have f4 := CV3 w hSw.2; have f5 := HQV.out); go_simp; first | done | with_reducible rfl)); simp only [Act.put, List.setIfInBounds_toArray, List.set_cons_zero, List.set_cons_succ])
        (refine mv_val 13 (v := ?_) rfl (by kernel_rfl) (by kernel_rfl) (by kernel_rfl) (fun _ _ _ h => h) (by rfl) hS ?_ ?_; rotate_left; (focus (intro w hSw; (try dsimp only at hSw); (have f1 := CV1 w hSw.1; have f2 := CV2 w hSw.1; have f3 := hyf; have f4 := CV3 w hSw.2; have f5 := HQV.out); go_simp; first | done | with_reducible rfl)); simp only [Act.put, List.setIfInBounds_toArray, List.set_cons_zero, List.set_cons_succ])
        refine wpAnyH_done (by kernel_rfl) ?_ _
        go_wp2_with fail
        go_meet
        exact ⟨rfl, hS.1⟩
    case rest =>
      obtain ⟨rfl, hcut⟩ := hcut
      obtain ⟨hpx, hpz⟩ := HIN.out
      have hb0d : Below W.heap.size W wc := hb0c.trans (hcut.mono hb0c.size)
      have hown5d := own_bel hown5c hcut
      have hown6d := own_bel hown6c hcut
      have HPX := Lib.hid hpx
      have HPZ := Lib.hid hpz
      clear hown5c hown6c CV1 CV2 hcut hb0c hpx hpz HIN HI2
      go_wp2_with fail
      refine (G3.out A5 c5 wc (rd_own hown5d) ((hb.below hb0d).more hb0d.size)).mono ?_; rintro e w8 ⟨A8, c8, rfl, hown8, hb8⟩
      dsimp only at hown8 ⊢
      have hb08 : Below W.heap.size W w8 := hb0d.trans (hb8.mono hb0d.size)
      have hown5e := own_bel hown5d hb8
      have hown6e := own_bel hown6d hb8
      have har := ha.below hb08
      have hsz8 := hb08.size
      clear hown5d hown6d
      go_wp2_with (first
        | (at_builtin; refine wpList_app HEL rfl _ _ rfl hown9 rfl rfl hbr9 (vcells_length b) (vcells_one b) (by unfold maxLen; omega) (by have : (a.length + b.length) * by_ ≤ 60 * 64 := Nat.mul_le_mul (by omega) hby; omega) hb9.size ?_; intro v10 w10 hown10 hg10 _; obtain ⟨A10, c10, rfl, _⟩ := own_form hown10; rw [← vcells_append] at hown10; have hb10 : Below w8.heap.size w8 w10 := hb9.trans (own_below hown9 hg10 hb9.size))
        | (at_builtin; refine wpList_app HEL rfl _ _ rfl (lit0_val w8) rfl rfl (har.alloc (by omega) _) (vcells_length a) (vcells_one a) (by unfold maxLen; omega) (by have : (0 + a.length) * by_ ≤ 30 * 64 := Nat.mul_le_mul (by omega) hby; omega) (by simp) ?_; intro v9 w9 hown9 hg9 _; rw [Nat.zero_add, List.nil_append] at hown9; have hb9 : Below w8.heap.size w8 w9 := ((Below.refl _ _).alloc (Nat.le_refl _) _).trans (own_below (lit0_val w8) hg9 (by simp)); have hbr9 := hb.below (hb08.trans (hb9.mono hsz8))))
      refine (G4.out A10 c10 w10 (rd_own hown10)).mono ?_; rintro e w11 ⟨A11, c11, rfl, hown11, hb11⟩
      dsimp only at hown11 ⊢
      have hb811 : Below w8.heap.size w8 w11 := hb10.trans (hb11.mono hb10.size)
      have hb011 : Below W.heap.size W w11 := hb08.trans (hb811.mono hsz8)
      have hown5f := own_bel hown5e hb811
      have hown6f := own_bel hown6e hb811
      have hown8f := own_bel hown8 hb811
      have CV1 : ∀ w', Below w11.heap.size w11 w' → (convert 22 9 (.slice A5 xs.length c5)).run Try.prog w' = .ok (.string ⟨xs.toArray⟩) w' := fun w' h => conv_own (own_bel hown5f h)
      have CV2 : ∀ w', Below w11.heap.size w11 w' → (convert 22 9 (.slice A6 ys.length c6)).run Try.prog w' = .ok (.string ⟨ys.toArray⟩) w' := fun w' h => conv_own (own_bel hown6f h)
      have CV3 : ∀ w', Below w11.heap.size w11 w' → (convert 22 9 (.slice A8 p.length c8)).run Try.prog w' = .ok (.string ⟨p.toArray⟩) w' := fun w' h => conv_own (own_bel hown8f h)
      have CV4 : ∀ w', Below w11.heap.size w11 w' → (convert 22 9 (.slice A11 p.length c11)).run Try.prog w' = .ok (.string ⟨p.toArray⟩) w' := fun w' h => conv_own (own_bel hown11 h)
      clear hown5e hown6e hown8 hown6f hown8f hown11 hown10 hown9 hbr9 har hg9 hg10
      go_wp2_with fail
      have hsum : ¬ 9223372036854775807 < xs.length + ys.length := by omega
      refine ah_start 47 (fun w' => Below w11.heap.size w11 w') rfl (by kernel_rfl) (Below.refl _ _).drew ?_ ; intro hS
      (refine mv_val 0 (v := ?_) rfl (by kernel_rfl) (by kernel_rfl) (by kernel_rfl) (fun _ _ _ h => h) (by rfl) hS ?_ ?_; rotate_left; (focus (intro w hSw; (try dsimp only at hSw); (have f1 := CV1 w hSw; have f2 := CV2 w hSw; have f3 := CV3 w hSw; have f4 := CV4 w hSw; have f5 := HBA.out; have f6 := HPX.out; have f7 := hsum); go_simp; first | done | with_reducible rfl)); simp only [Act.put, List.setIfInBounds_toArray, List.set_cons_zero, List.set_cons_succ])
      (refine mv_val 1 (v := ?_) rfl (by kernel_rfl) (by kernel_rfl) (by kernel_rfl) (fun _ _ _ h => h) (by rfl) hS ?_ ?_; rotate_left; (focus (intro w hSw; (try dsimp only at hSw); (have f1 := CV1 w hSw; have f2 := CV2 w hSw; have f3 := CV3 w hSw; have f4 := CV4 w hSw; have f5 := HBA.out; have f6 := HPX.out; have f7 := hsum); go_simp; first | done | with_reducible rfl)); simp only [Act.put, List.setIfInBounds_toArray, List.set_cons_zero, List.set_cons_succ])
      (refine mv_val 2 (v := ?_) rfl (by kernel_rfl) (by kernel_rfl) (by kernel_rfl) (fun _ _ _ h => h) (by rfl) hS ?_ ?_; rotate_left; (focus (intro w hSw; (try dsimp only at hSw); (have f1 := CV1 w hSw; have f2 := CV2 w hSw; have f3 := CV3 w hSw; have f4 := CV4 w hSw; have f5 := HBA.out; have f6 := HPX.out; have f7 := hsum); go_simp; first | done | with_reducible rfl)); simp only [Act.put, List.setIfInBounds_toArray, List.set_cons_zero, List.set_cons_succ])
      (refine mv_val 3 (v := ?_) rfl (by kernel_rfl) (by kernel_rfl) (by kernel_rfl) (fun _ _ _ h => h) (by rfl) hS ?_ ?_; rotate_left; (focus (intro w hSw; (try dsimp only at hSw); (have f1 := CV1 w hSw; have f2 := CV2 w hSw; have f3 := CV3 w hSw; have f4 := CV4 w hSw; have f5 := HBA.out; have f6 := HPX.out; have f7 := hsum); go_simp; first | done | with_reducible rfl)); simp only [Act.put, List.setIfInBounds_toArray, List.set_cons_zero, List.set_cons_succ])
      (refine mv_val 4 (v := ?_) rfl (by kernel_rfl) (by kernel_rfl) (by kernel_rfl) (fun _ _ _ h => h) (by rfl) hS ?_ ?_; rotate_left; (focus (intro w hSw; (try dsimp only at hSw); (have f1 := CV1 w hSw; have f2 := CV2 w hSw; have f3 := CV3 w hSw; have f4 := CV4 w hSw; have f5 := HBA.out; have f6 := HPX.out; have f7 := hsum); go_simp; first | done | with_reducible rfl)); simp only [Act.put, List.setIfInBounds_toArray, List.set_cons_zero, List.set_cons_succ])
      (refine mv_val 5 (v := ?_) rfl (by kernel_rfl) (by kernel_rfl) (by kernel_rfl) (fun _ _ _ h => h) (by rfl) hS ?_ ?_; rotate_left; (focus (intro w hSw; (try dsimp only at hSw); (have f1 := CV1 w hSw; have f2 := CV2 w hSw; have f3 := CV3 w hSw; have f4 := CV4 w hSw; have f5 := HBA.out; have f6 := HPX.out; have f7 := hsum); go_simp; first | done | with_reducible rfl)); simp only [Act.put, List.setIfInBounds_toArray, List.set_cons_zero, List.set_cons_succ])
      (refine mv_val 6 (v := ?_) rfl (by kernel_rfl) (by kernel_rfl) (by kernel_rfl) (fun _ _ _ h => h) (by rfl) hS ?_ ?_; rotate_left; (focus (intro w hSw; (try dsimp only at hSw); (have f1 := CV1 w hSw; have f2 := CV2 w hSw; have f3 := CV3 w hSw; have f4 := CV4 w hSw; have f5 := HBA.out; have f6 := HPX.out; have f7 := hsum); go_simp; first | done | with_reducible rfl)); simp only [Act.put, List.setIfInBounds_toArray, List.set_cons_zero, List.set_cons_succ])
      (refine mv_val 7 (v := ?_) rfl (by kernel_rfl) (by kernel_rfl) (by kernel_rfl) (fun _ _ _ h => h) (by rfl) hS ?_ ?_; rotate_left; (focus (intro w hSw; (try dsimp only at hSw); (have f1 := CV1 w hSw; have f2 := CV2 w hSw; have f3 := CV3 w hSw; have f4 := CV4 w hSw; have f5 := HBA.out; have f6 := HPX.out; have f7 := hsum); go_simp; first | done | with_reducible rfl)); simp only [Act.put, List.setIfInBounds_toArray, List.set_cons_zero, List.set_cons_succ])
      (refine mv_val 8 (v := ?_) rfl (by kernel_rfl) (by kernel_rfl) (by kernel_rfl) (fun _ _ _ h => h) (by rfl) hS ?_ ?_; rotate_left; (focus (intro w hSw; (try dsimp only at hSw); (have f1 := CV1 w hSw; have f2 := CV2 w hSw; have f3 := CV3 w hSw; have f4 := CV4 w hSw; have f5 := HBA.out; have f6 := HPX.out; have f7 := hsum); go_simp; first | done | with_reducible rfl)); simp only [Act.put, List.setIfInBounds_toArray, List.set_cons_zero, List.set_cons_succ])
      (refine mv_val 9 (v := ?_) rfl (by kernel_rfl) (by kernel_rfl) (by kernel_rfl) (fun _ _ _ h => h) (by rfl) hS ?_ ?_; rotate_left; (focus (intro w hSw; (try dsimp only at hSw); (have f1 := CV1 w hSw; have f2 := CV2 w hSw; have f3 := CV3 w hSw; have f4 := CV4 w hSw; have f5 := HBA.out; have f6 := HPX.out; have f7 := hsum); go_simp; first | done | with_reducible rfl)); simp only [Act.put, List.setIfInBounds_toArray, List.set_cons_zero, List.set_cons_succ])
      (refine mv_val 10 (v := ?_) rfl (by kernel_rfl) (by kernel_rfl) (by kernel_rfl) (fun _ _ _ h => h) (by rfl) hS ?_ ?_; rotate_left; (focus (intro w hSw; (try dsimp only at hSw); (have f1 := CV1 w hSw; have f2 := CV2 w hSw; have f3 := CV3 w hSw; have f4 := CV4 w hSw; have f5 := HBA.out; have f6 := HPX.out; have f7 := hsum); go_simp; first | done | with_reducible rfl)); simp only [Act.put, List.setIfInBounds_toArray, List.set_cons_zero, List.set_cons_succ])
      (refine mv_val 11 (v := ?_) rfl (by kernel_rfl) (by kernel_rfl) (by kernel_rfl) (fun _ _ _ h => h) (by rfl) hS ?_ ?_; rotate_left; (focus (intro w hSw; (try dsimp only at hSw); (have f1 := CV1 w hSw; have f2 := CV2 w hSw; have f3 := CV3 w hSw; have f4 := CV4 w hSw; have f5 := HBA.out; have f6 := HPX.out; have f7 := hsum); go_simp; first | done | with_reducible rfl)); simp only [Act.put, List.setIfInBounds_toArray, List.set_cons_zero, List.set_cons_succ])
      (refine mv_val 12 (v := ?_) rfl (by kernel_rfl) (by kernel_rfl) (by kernel_rfl) (fun _ _ _ h => h) (by rfl) hS ?_ ?_; rotate_left; (focus (intro w hSw; (try dsimp only at hSw); (have f1 := CV1 w hSw; have f2 := CV2 w hSw; have f3 := CV3 w hSw; have f4 := CV4 w hSw; have f5 := HBA.out; have f6 := HPX.out; have f7 := hsum); go_simp; first | done | with_reducible rfl)); simp only [Act.put, List.setIfInBounds_toArray, List.set_cons_zero, List.set_cons_succ])
      (refine mv_val 13 (v := ?_) rfl (by kernel_rfl) (by kernel_rfl) (by kernel_rfl) (fun _ _ _ h => h) (by rfl) hS ?_ ?_; rotate_left; (focus (intro w hSw; (try dsimp only at hSw); (have f1 := CV1 w hSw; have f2 := CV2 w hSw; have f3 := CV3 w hSw; have f4 := CV4 w hSw; have f5 := HBA.out; have f6 := HPX.out; have f7 := hsum); go_simp; first | done | with_reducible rfl)); simp only [Act.put, List.setIfInBounds_toArray, List.set_cons_zero, List.set_cons_succ])
      (refine mv_val 14 (v := ?_) rfl (by kernel_rfl) (by kernel_rfl) (by kernel_rfl) (fun _ _ _ h => h) (by rfl) hS ?_ ?_; rotate_left; (focus (intro w hSw; (try dsimp only at hSw); (have f1 := CV1 w hSw; have f2 := CV2 w hSw; have f3 := CV3 w hSw; have f4 := CV4 w hSw; have f5 := HBA.out; have f6 := HPX.out; have f7 := hsum); go_simp; first | done | with_reducible rfl)); simp only [Act.put, List.setIfInBounds_toArray, List.set_cons_zero, List.set_cons_succ])
      (refine mv_val 15 (v := ?_) rfl (by kernel_rfl) (by kernel_rfl) (by kernel_rfl) (fun _ _ _ h => h) (by rfl) hS ?_ ?_; rotate_left; (focus (intro w hSw; (try dsimp only at hSw); (have f1 := CV1 w hSw; have f2 := CV2 w hSw; have f3 := CV3 w hSw; have f4 := CV4 w hSw; have f5 := HBA.out; have f6 := HPX.out; have f7 := hsum); go_simp; first | done | with_reducible rfl)); simp only [Act.put, List.setIfInBounds_toArray, List.set_cons_zero, List.set_cons_succ])
      (refine mv_val 16 (v := ?_) rfl (by kernel_rfl) (by kernel_rfl) (by kernel_rfl) (fun _ _ _ h => h) (by rfl) hS ?_ ?_; rotate_left; (focus (intro w hSw; (try dsimp only at hSw); (have f1 := CV1 w hSw; have f2 := CV2 w hSw; have f3 := CV3 w hSw; have f4 := CV4 w hSw; have f5 := HBA.out; have f6 := HPX.out; have f7 := hsum); go_simp; first | done | with_reducible rfl)); simp only [Act.put, List.setIfInBounds_toArray, List.set_cons_zero, List.set_cons_succ])
      (refine mv_val 17 (v := ?_) rfl (by kernel_rfl) (by kernel_rfl) (by kernel_rfl) (fun _ _ _ h => h) (by rfl) hS ?_ ?_; rotate_left; (focus (intro w hSw; (try dsimp only at hSw); (have f1 := CV1 w hSw; have f2 := CV2 w hSw; have f3 := CV3 w hSw; have f4 := CV4 w hSw; have f5 := HBA.out; have f6 := HPX.out; have f7 := hsum); go_simp; first | done | with_reducible rfl)); simp only [Act.put, List.setIfInBounds_toArray, List.set_cons_zero, List.set_cons_succ])
      (refine mv_val 18 (v := ?_) rfl (by kernel_rfl) (by kernel_rfl) (by kernel_rfl) (fun _ _ _ h => h) (by rfl) hS ?_ ?_; rotate_left; (focus (intro w hSw; (try dsimp only at hSw); (have f1 := CV1 w hSw; have f2 := CV2 w hSw; have f3 := CV3 w hSw; have f4 := CV4 w hSw; have f5 := HBA.out; have f6 := HPX.out; have f7 := hsum); go_simp; first | done | with_reducible rfl)); simp only [Act.put, List.setIfInBounds_toArray, List.set_cons_zero, List.set_cons_succ])
      (refine mv_val 19 (v := ?_) rfl (by kernel_rfl) (by kernel_rfl) (by kernel_rfl) (fun _ _ _ h => h) (by rfl) hS ?_ ?_; rotate_left; (focus (intro w hSw; (try dsimp only at hSw); (have f1 := CV1 w hSw; have f2 := CV2 w hSw; have f3 := CV3 w hSw; have f4 := CV4 w hSw; have f5 := HBA.out; have f6 := HPX.out; have f7 := hsum); go_simp; first | done | with_reducible rfl)); simp only [Act.put, List.setIfInBounds_toArray, List.set_cons_zero, List.set_cons_succ])
      (refine mv_val 20 (v := ?_) rfl (by kernel_rfl) (by kernel_rfl) (by kernel_rfl) (fun _ _ _ h => h) (by rfl) hS ?_ ?_; rotate_left; (focus (intro w hSw; (try dsimp only at hSw); (have f1 := CV1 w hSw; have f2 := CV2 w hSw; have f3 := CV3 w hSw; have f4 := CV4 w hSw; have f5 := HBA.out; have f6 := HPX.out; have f7 := hsum); go_simp; first | done | with_reducible rfl)); simp only [Act.put, List.setIfInBounds_toArray, List.set_cons_zero, List.set_cons_succ])
      (refine mv_val 21 (v := ?_) rfl (by kernel_rfl) (by kernel_rfl) (by kernel_rfl) (fun _ _ _ h => h) (by rfl) hS ?_ ?_; rotate_left; (focus (intro w hSw; (try dsimp only at hSw); (have f1 := CV1 w hSw; have f2 := CV2 w hSw; have f3 := CV3 w hSw; have f4 := CV4 w hSw; have f5 := HBA.out; have f6 := HPX.out; have f7 := hsum); go_simp; first | done | with_reducible rfl)); simp only [Act.put, List.setIfInBounds_toArray, List.set_cons_zero, List.set_cons_succ])
      (refine mv_val 22 (v := ?_) rfl (by kernel_rfl) (by kernel_rfl) (by kernel_rfl) (fun _ _ _ h => h) (by rfl) hS ?_ ?_; rotate_left; (focus (intro w hSw; (try dsimp only at hSw); (have f1 := CV1 w hSw; have f2 := CV2 w hSw; have f3 := CV3 w hSw; have f4 := CV4 w hSw; have f5 := HBA.out; have f6 := HPX.out; have f7 := hsum); go_simp; first | done | with_reducible rfl)); simp only [Act.put, List.setIfInBounds_toArray, List.set_cons_zero, List.set_cons_succ])
      (refine mv_val 23 (v := ?_) rfl (by kernel_rfl) (by kernel_rfl) (by kernel_rfl) (fun _ _ _ h => h) (by rfl) hS ?_ ?_; rotate_left; (focus (intro w hSw; (try dsimp only at hSw); (have f1 := CV1 w hSw; have f2 := CV2 w hSw; have f3 := CV3 w hSw; have f4 := CV4 w hSw; have f5 := HBA.out; have f6 := HPX.out; have f7 := hsum); go_simp; first | done | with_reducible rfl)); simp only [Act.put, List.setIfInBounds_toArray, List.set_cons_zero, List.set_cons_succ])
      (refine mv_val 24 (v := ?_) rfl (by kernel_rfl) (by kernel_rfl) (by kernel_rfl) (fun _ _ _ h => h) (by rfl) hS ?_ ?_; rotate_left; (focus (intro w hSw; (try dsimp only at hSw); (have f1 := CV1 w hSw; have f2 := CV2 w hSw; have f3 := CV3 w hSw; have f4 := CV4 w hSw; have f5 := HBA.out; have f6 := HPX.out; have f7 := hsum); go_simp; first | done | with_reducible rfl)); simp only [Act.put, List.setIfInBounds_toArray, List.set_cons_zero, List.set_cons_succ])
      (refine mv_val 25 (v := ?_) rfl (by kernel_rfl) (by kernel_rfl) (by kernel_rfl) (fun _ _ _ h => h) (by rfl) hS ?_ ?_; rotate_left; (focus (intro w hSw; (try dsimp only at hSw); (have f1 := CV1 w hSw; have f2 := CV2 w hSw; have f3 := CV3 w hSw; have f4 := CV4 w hSw; have f5 := HBA.out; have f6 := HPX.out; have f7 := hsum); go_simp; first | done | with_reducible rfl)); simp only [Act.put, List.setIfInBounds_toArray, List.set_cons_zero, List.set_cons_succ])
      (refine mv_val 26 (v := ?_) rfl (by kernel_rfl) (by kernel_rfl) (by kernel_rfl) (fun _ _ _ h => h) (by rfl) hS ?_ ?_; rotate_left; (focus (intro w hSw; (try dsimp only at hSw); (have f1 := CV1 w hSw; have f2 := CV2 w hSw; have f3 := CV3 w hSw; have f4 := CV4 w hSw; have f5 := HBA.out; have f6 := HPX.out; have f7 := hsum); go_simp; first | done | with_reducible rfl)); simp only [Act.put, List.setIfInBounds_toArray, List.set_cons_zero, List.set_cons_succ])
      (refine mv_val 27 (v := ?_) rfl (by kernel_rfl) (by kernel_rfl) (by kernel_rfl) (fun _ _ _ h => h) (by rfl) hS ?_ ?_; rotate_left; (focus (intro w hSw; (try dsimp only at hSw); (have f1 := CV1 w hSw; have f2 := CV2 w hSw; have f3 := CV3 w hSw; have f4 := CV4 w hSw; have f5 := HBA.out; have f6 := HPX.out; have f7 := hsum); go_simp; first | done | with_reducible rfl)); simp only [Act.put, List.setIfInBounds_toArray, List.set_cons_zero, List.set_cons_succ])
      (refine mv_val 28 (v := ?_) rfl (by kernel_rfl) (by kernel_rfl) (by kernel_rfl) (fun _ _ _ h => h) (by rfl) hS ?_ ?_; rotate_left; (focus (intro w hSw; (try dsimp only at hSw); (have f1 := CV1 w hSw; have f2 := CV2 w hSw; have f3 := CV3 w hSw; have f4 := CV4 w hSw; have f5 := HBA.out; have f6 := HPX.out; have f7 := hsum); go_simp; first | done | with_reducible rfl)); simp only [Act.put, List.setIfInBounds_toArray, List.set_cons_zero, List.set_cons_succ])
      (refine mv_val 29 (v := ?_) rfl (by kernel_rfl) (by kernel_rfl) (by kernel_rfl) (fun _ _ _ h => h) (by rfl) hS ?_ ?_; rotate_left; (focus (intro w hSw; (try dsimp only at hSw); (have f1 := CV1 w hSw; have f2 := CV2 w hSw; have f3 := CV3 w hSw; have f4 := CV4 w hSw; have f5 := HBA.out; have f6 := HPX.out; have f7 := hsum); go_simp; first | done | with_reducible rfl)); simp only [Act.put, List.setIfInBounds_toArray, List.set_cons_zero, List.set_cons_succ])
      (refine mv_val 30 (v := ?_) rfl (by kernel_rfl) (by kernel_rfl) (by kernel_rfl) (fun _ _ _ h => h) (by rfl) hS ?_ ?_; rotate_left; (focus (intro w hSw; (try dsimp only at hSw); (have f1 := CV1 w hSw; have f2 := CV2 w hSw; have f3 := CV3 w hSw; have f4 := CV4 w hSw; have f5 := HBA.out; have f6 := HPX.out; have f7 := hsum); go_simp; first | done | with_reducible rfl)); simp only [Act.put, List.setIfInBounds_toArray, List.set_cons_zero, List.set_cons_succ])
      (refine mv_val 31 (v := ?_) rfl (by kernel_rfl) (by kernel_rfl) (by kernel_rfl) (fun _ _ _ h => h) (by rfl) hS ?_ ?_; rotate_left; (focus (intro w hSw; (try dsimp only at hSw); (have f1 := CV1 w hSw; have f2 := CV2 w hSw; have f3 := CV3 w hSw; have f4 := CV4 w hSw; have f5 := HBA.out; have f6 := HPX.out; have f7 := hsum); go_simp; first | done | with_reducible rfl)); simp only [Act.put, List.setIfInBounds_toArray, List.set_cons_zero, List.set_cons_succ])
      (refine mv_val 32 (v := ?_) rfl (by kernel_rfl) (by kernel_rfl) (by kernel_rfl) (fun _ _ _ h => h) (by rfl) hS ?_ ?_; rotate_left; (focus (intro w hSw; (try dsimp only at hSw); (have f1 := CV1 w hSw; have f2 := CV2 w hSw; have f3 := CV3 w hSw; have f4 := CV4 w hSw; have f5 := HBA.out; have f6 := HPX.out; have f7 := hsum); go_simp; first | done | with_reducible rfl)); simp only [Act.put, List.setIfInBounds_toArray, List.set_cons_zero, List.set_cons_succ])
      (refine mv_val 33 (v := ?_) rfl (by kernel_rfl) (by kernel_rfl) (by kernel_rfl) (fun _ _ _ h => h) (by rfl) hS ?_ ?_; rotate_left; (focus (intro w hSw; (try dsimp only at hSw); (have f1 := CV1 w hSw; have f2 := CV2 w hSw; have f3 := CV3 w hSw; have f4 := CV4 w hSw; have f5 := HBA.out; have f6 := HPX.out; have f7 := hsum); go_simp; first | done | with_reducible rfl)); simp only [Act.put, List.setIfInBounds_toArray, List.set_cons_zero, List.set_cons_succ])
      (refine mv_val 34 (v := ?_) rfl (by kernel_rfl) (by kernel_rfl) (by kernel_rfl) (fun _ _ _ h => h) (by rfl) hS ?_ ?_; rotate_left; (focus (intro w hSw; (try dsimp only at hSw); (have f1 := CV1 w hSw; have f2 := CV2 w hSw; have f3 := CV3 w hSw; have f4 := CV4 w hSw; have f5 := HBA.out; have f6 := HPX.out; have f7 := hsum); go_simp; first | done | with_reducible rfl)); simp only [Act.put, List.setIfInBounds_toArray, List.set_cons_zero, List.set_cons_succ])
      (refine mv_val 35 (v := ?_) rfl (by kernel_rfl) (by kernel_rfl) (by kernel_rfl) (fun _ _ _ h => h) (by rfl) hS ?_ ?_; rotate_left; (focus (intro w hSw; (try dsimp only at hSw); (have f1 := CV1 w hSw; have f2 := CV2 w hSw; have f3 := CV3 w hSw; have f4 := CV4 w hSw; have f5 := HBA.out; have f6 := HPX.out; have f7 := hsum); go_simp; first | done | with_reducible rfl)); simp only [Act.put, List.setIfInBounds_toArray, List.set_cons_zero, List.set_cons_succ])
      (refine mv_val 36 (v := ?_) rfl (by kernel_rfl) (by kernel_rfl) (by kernel_rfl) (fun _ _ _ h => h) (by rfl) hS ?_ ?_; rotate_left; (focus (intro w hSw; (try dsimp only at hSw); (have f1 := CV1 w hSw; have f2 := CV2 w hSw; have f3 := CV3 w hSw; have f4 := CV4 w hSw; have f5 := HBA.out; have f6 := HPX.out; have f7 := hsum); go_simp; first | done | with_reducible rfl)); simp only [Act.put, List.setIfInBounds_toArray, List.set_cons_zero, List.set_cons_succ])
      (refine mv_val 37 (v := ?_) rfl (by kernel_rfl) (by kernel_rfl) (by kernel_rfl) (fun _ _ _ h => h) (by rfl) hS ?_ ?_; rotate_left; (focus (intro w hSw; (try dsimp only at hSw); (have f1 := CV1 w hSw; have f2 := CV2 w hSw; have f3 := CV3 w hSw; have f4 := CV4 w hSw; have f5 := HBA.out; have f6 := HPX.out; have f7 := hsum); go_simp; first | done | with_reducible rfl)); simp only [Act.put, List.setIfInBounds_toArray, List.set_cons_zero, List.set_cons_succ])
      (refine mv_val 38 (v := ?_) rfl (by kernel_rfl) (by kernel_rfl) (by kernel_rfl) (fun _ _ _ h => h) (by rfl) hS ?_ ?_; rotate_left; (focus (intro w hSw; (try dsimp only at hSw); (have f1 := CV1 w hSw; have f2 := CV2 w hSw; have f3 := CV3 w hSw; have f4 := CV4 w hSw; have f5 := HBA.out; have f6 := HPX.out; have f7 := hsum); go_simp; first | done | with_reducible rfl)); simp only [Act.put, List.setIfInBounds_toArray, List.set_cons_zero, List.set_cons_succ])
      (refine mv_call 39 (f := ?_) (args := ?_) rfl (by kernel_rfl) (by rfl) ?_ ?_; rotate_left 2; (focus (go_simp; first | done | with_reducible rfl | (refine ⟨?_, ?_⟩ <;> with_reducible rfl))))
      refine (GF.out A5 c5 _ (rd_own (own_bel hown5f hS))).mono ?_; rintro e w12 ⟨A12, c12, rfl, hown12, hb12⟩
      have hS12 : Below w11.heap.size w11 w12 := hS.trans (hb12.mono hS.size)
      refine ⟨_, rfl, hS12, ?_⟩
      refine ah_mono (S' := fun w' => Below w11.heap.size w11 w' ∧ Below w12.heap.size w12 w') (fun w h => h.1) _ _ _ _ ?_
      replace hS : Below w11.heap.size w11 w12 ∧ Below w12.heap.size w12 w12 := ⟨hS12, Below.refl _ _⟩
      have CV5 : ∀ w', Below w12.heap.size w12 w' → (convert 22 9 (.slice A12 z.length c12)).run Try.prog w' = .ok (.string ⟨z.toArray⟩) w' := fun w' h => conv_own (own_bel hown12 h)
      simp only [Act.put, List.setIfInBounds_toArray, List.set_cons_zero, List.set_cons_succ]
      (refine mv_val 40 (v := ?_) rfl (by kernel_rfl) (by kernel_rfl) (by kernel_rfl) (fun _ _ _ h => h) (by rfl) hS ?_ ?_; rotate_left; (focus (intro w hSw; (try dsimp only at hSw); (have f1 := CV1 w hSw.1; have f2 := CV3 w hSw.1; have f3 := HPZ.out; have f4 := CV5 w hSw.2); go_simp; first | done | with_reducible rfl)); simp only [Act.put, List.setIfInBounds_toArray, List.set_cons_zero, List.set_cons_succ])
      (refine mv_val 41 (v := ?_) rfl (by kernel_rfl) (by kernel_rfl) (by kernel_rfl) (fun _ _ _ h => h) (by rfl) hS ?_ ?_; rotate_left; (focus (intro w hSw; (try dsimp only at hSw); (have f1 := CV1 w hSw.1; have f2 := CV3 w hSw.1; have f3 := HPZ.out; have f4 := CV5 w hSw.2); go_simp; first | done | with_reducible rfl)); simp only [Act.put, List.setIfInBounds_toArray, List.set_cons_zero, List.set_cons_succ])
      (refine mv_val 42 (v := ?_) rfl (by kernel_rfl) (by kernel_rfl) (by kernel_rfl) (fun _ _ _ h => h) (by rfl) hS ?_ ?_; rotate_left; (focus (intro w hSw; (try dsimp only at hSw); (have f1 := CV1 w hSw.1; have f2 := CV3 w hSw.1; have f3 := HPZ.out; have f4 := CV5 w hSw.2); go_simp; first | done | with_reducible rfl)); simp only [Act.put, List.setIfInBounds_toArray, List.set_cons_zero, List.set_cons_succ])
      (refine mv_val 43 (v := ?_) rfl (by kernel_rfl) (by kernel_rfl) (by kernel_rfl) (fun _ _ _ h => h) (by rfl) hS ?_ ?_; rotate_left; (focus (intro w hSw; (try dsimp only at hSw); (have f1 := CV1 w hSw.1; have f2 := CV3 w hSw.1; have f3 := HPZ.out; have f4 := CV5 w hSw.2); go_simp; first | done | with_reducible rfl)); simp only [Act.put, List.setIfInBounds_toArray, List.set_cons_zero, List.set_cons_succ])
      (refine mv_call 44 (f := ?_) (args := ?_) rfl (by kernel_rfl) (by rfl) ?_ ?_; rotate_left 2; (focus (go_simp; first | done | with_reducible rfl | (refine ⟨?_, ?_⟩ <;> with_reducible rfl))))
      refine (keys_any _).mono ?_; rintro e w13 ⟨rfl, hb13⟩
      have hS13 : Below w11.heap.size w11 w13 ∧ Below w12.heap.size w12 w13 := ⟨hS.1.trans (hb13.mono hS.1.size), hS.2.trans (hb13.mono hS.2.size)⟩
      refine ⟨_, rfl, hS13, ?_⟩
      replace hS := hS13
      simp only [Act.put, List.setIfInBounds_toArray, List.set_cons_zero, List.set_cons_succ]
      (refine mv_val 45 (v := ?_) rfl (by kernel_rfl) (by kernel_rfl) (by kernel_rfl) (fun _ _ _ h => h) (by rfl) hS ?_ ?_; rotate_left; (focus (intro w hSw; (try dsimp only at hSw); (have f1 := CV1 w hSw.1; have f2 := CV3 w hSw.1; have f3 := HPZ.out; have f4 := CV5 w hSw.2); go_simp; first | done | with_reducible rfl)); simp only [Act.put, List.setIfInBounds_toArray, List.set_cons_zero, List.set_cons_succ])
      (refine mv_val 46 (v := ?_) rfl (by kernel_rfl) (by kernel_rfl) (by kernel_rfl) (fun _ _ _ h => h) (by rfl) hS ?_ ?_; rotate_left; (focus (intro w hSw; (try dsimp only at hSw); (have f1 := CV1 w hSw.1; have f2 := CV3 w hSw.1; have f3 := HPZ.out; have f4 := CV5 w hSw.2); go_simp; first | done | with_reducible rfl)); simp only [Act.put, List.setIfInBounds_toArray, List.set_cons_zero, List.set_cons_succ])
      refine wpAnyH_done (by kernel_rfl) ?_ _
      go_wp2_with fail
      go_ret
      exact ⟨rfl, hb011.trans (hS.1.mono hb011.size)⟩
end Go.Proofs.Ytdbhbfpfcdklmaa

/- The law KeyOrders (layer 3), walked: true for every input. No condition. -/
import Derived.Test.YtdbhbfpfcdklmaaKeyL2
import Derived.Test.YtdbhbfpfcdklmaaKeyQ
namespace Go.Proofs.Ytdbhbfpfcdklmaa
open Go.RowKit
set_option linter.unusedVariables false
set_option linter.unusedSimpArgs false

theorem kapp_may {l : List V} (h : l.all mayB = true) : kapp [] l = (F l, 0) := by unfold kapp; rw [if_pos h]; rfl
theorem kapp_not {l : List V} (h : l.all mayB = false) : kapp [] l = ([], 1) := by unfold kapp; rw [if_neg (by rw [h]; simp)]
theorem good_all {l : List V} (h : l.all mayB = true) (hok : ∀ v ∈ l, v.k < 256 ∧ i64r v.n) : ∀ v ∈ l, good v := fun v hv => ⟨List.all_eq_true.1 h v hv, (hok v hv).2⟩

set_option maxHeartbeats 4000000 in
set_option maxRecDepth 100000 in
theorem keyOrders_walk (A : Option Addr) (c : Nat) (a : List V) (A' : Option Addr) (c' : Nat) (b : List V) (W : World) (ha : Rd W W.heap.size A (vcells a)) (hac : a.length ≤ c ∧ c ≤ maxLen) (hoka : ∀ v ∈ a, vok v)
    (hb : Rd W W.heap.size A' (vcells b)) (hbc : b.length ≤ c' ∧ c' ≤ maxLen) (hokb : ∀ v ∈ b, vok v) :
    Calls Try.prog 4 #[.slice A a.length c, .slice A' b.length c'] W fun e w' => e = .returned (.bool true) ∧ Below W.heap.size W w' := by
  have KA := Lib.hid (fun w => long_any W.heap.size A c a w)
  have KB := Lib.hid (fun w => long_any W.heap.size A' c' b w)
  obtain ⟨la, hla⟩ : ∃ x, x = lng a := ⟨_, rfl⟩
  obtain ⟨lb, hlb⟩ : ∃ x, x = lng b := ⟨_, rfl⟩
  rw [← hla] at KA
  rw [← hlb] at KB
  rcases la with _ | _
  case true =>
    clear hla hlb
    go_enter Try.func4, Try.ntmps4
    go_wp2_with fail
    refine (KA.out W ha (Nat.le_refl _)).mono ?_; rintro e w1 ⟨rfl, hb1⟩
    go_wp2_with fail
    go_ret
    exact ⟨rfl, hb1⟩
  rcases lb with _ | _
  case true =>
    clear hla hlb
    go_enter Try.func4, Try.ntmps4
    go_wp2_with fail
    refine (KA.out W ha (Nat.le_refl _)).mono ?_; rintro e w1 ⟨rfl, hb1⟩
    go_wp2_with fail
    refine (KB.out w1 (hb.below hb1) hb1.size).mono ?_; rintro e w2 ⟨rfl, hb2⟩
    have hb02 : Below W.heap.size W w2 := hb1.trans (hb2.mono hb1.size)
    go_wp2_with fail
    go_ret
    exact ⟨rfl, hb02⟩
  obtain ⟨ha30, _, hfa⟩ := lng_false hla.symm
  obtain ⟨hb30, _, hfb⟩ := lng_false hlb.symm
  have HOA := Lib.hid (vok2 hoka)
  have HOB := Lib.hid (vok2 hokb)
  clear hla hlb hoka hokb
  have H1 := Lib.hid (fun w h hB => Append_any W.heap.size none A 0 c [] a w (.inl rfl) h hB (by rw [List.length_nil]; omega) (by omega) HOA.out)
  have H2 := Lib.hid (fun w h hB => Append_any W.heap.size none A' 0 c' [] b w (.inl rfl) h hB (by rw [List.length_nil]; omega) (by omega) HOB.out)
  have M1 := Lib.hid (fun w h hB => mayL_any W.heap.size A c a w h hB (by unfold maxLen; omega) (fun v hv => (HOA.out v hv).1))
  have M2 := Lib.hid (fun w h hB => mayL_any W.heap.size A' c' b w h hB (by unfold maxLen; omega) (fun v hv => (HOB.out v hv).1))
  have HR := Lib.hid (fun w h h' hB => Rows_any W.heap.size A A' c c' a b w h h' hB (by unfold maxLen; omega) (by unfold maxLen; omega))
  have HS := Lib.hid (fun w h h' hB => Same_any W.heap.size A A' c c' a b w h h' hB (by unfold maxLen; omega))
  obtain ⟨ma, hma⟩ : ∃ x, x = a.all mayB := ⟨_, rfl⟩
  obtain ⟨mb, hmb⟩ : ∃ x, x = b.all mayB := ⟨_, rfl⟩
  have HMA := Lib.hid hma
  have HMB := Lib.hid hmb
  obtain ⟨ka, hka⟩ : ∃ x, x = kapp [] a := ⟨_, rfl⟩
  obtain ⟨kb, hkb⟩ : ∃ x, x = kapp [] b := ⟨_, rfl⟩
  rw [← hka] at H1
  rw [← hkb] at H2
  rw [← hma] at M1
  rw [← hmb] at M2
  obtain ⟨xs, ea⟩ := ka
  obtain ⟨ys, eb⟩ := kb
  have HKA := Lib.hid hka
  have HKB := Lib.hid hkb
  clear hka hkb hma hmb
  go_enter Try.func4, Try.ntmps4
  go_wp2_with fail
  refine (KA.out W ha (Nat.le_refl _)).mono ?_; rintro e w1 ⟨rfl, hb1⟩
  go_wp2_with fail
  refine (KB.out w1 (hb.below hb1) hb1.size).mono ?_; rintro e w2 ⟨rfl, hb2⟩
  have hb02 : Below W.heap.size W w2 := hb1.trans (hb2.mono hb1.size)
  go_wp2_with fail
  refine (H1.out w2 (ha.below hb02) hb02.size).mono ?_; rintro e w3 ⟨A3, c3, rfl, hown3, hb3⟩
  dsimp only at hown3 ⊢
  have hb03 : Below W.heap.size W w3 := hb02.trans (hb3.mono hb02.size)
  go_wp2_with fail
  refine (H2.out w3 (hb.below hb03) hb03.size).mono ?_; rintro e w4 ⟨A4, c4, rfl, hown4, hb4⟩
  dsimp only at hown4 ⊢
  have hb04 : Below W.heap.size W w4 := hb03.trans (hb4.mono hb03.size)
  go_wp2_with fail
  refine (M1.out w4 (ha.below hb04) hb04.size).mono ?_; rintro e w5 ⟨rfl, hb5⟩
  have hb05 : Below W.heap.size W w5 := hb04.trans (hb5.mono hb04.size)
  have hown5 := own_bel (own_bel hown3 hb4) hb5
  have hown5' := own_bel hown4 hb5
  clear hown3 hown4
  by_cases hboth : ma = true ∧ mb = true
  case neg =>
    have hea : ((ea : Int) == 0) = ma := by
      have h1 := HKA.out
      rcases ma with _ | _
      · rw [kapp_not HMA.out.symm] at h1; cases h1; rfl
      · rw [kapp_may HMA.out.symm] at h1; cases h1; rfl
    have heb : ((eb : Int) == 0) = mb := by
      have h1 := HKB.out
      rcases mb with _ | _
      · rw [kapp_not HMB.out.symm] at h1; cases h1; rfl
      · rw [kapp_may HMB.out.symm] at h1; cases h1; rfl
    have hea2 : ((ea : Int) != 0) = !ma := by rw [← hea]; rfl
    have heb2 : ((eb : Int) != 0) = !mb := by rw [← heb]; rfl
    rcases ma with _ | _ <;> rcases mb with _ | _
    case true.true => exact absurd ⟨rfl, rfl⟩ hboth
    all_goals
      clear hboth
      go_wp2_with fail
      refine (M2.out w5 (hb.below hb05) hb05.size).mono ?_; rintro e w6 ⟨rfl, hb6⟩
      have hb06 : Below W.heap.size W w6 := hb05.trans (hb6.mono hb05.size)
      go_wp2_with fail
      refine (keys_any w6).mono ?_; rintro e w7 ⟨rfl, hb7⟩
      have hb07 : Below W.heap.size W w7 := hb06.trans (hb7.mono hb06.size)
      go_wp2_with fail
      go_ret
      exact ⟨rfl, hb07⟩
  obtain ⟨rfl, rfl⟩ := hboth
  have h1 := HKA.out
  rw [kapp_may HMA.out.symm] at h1
  simp only [Prod.mk.injEq] at h1
  obtain ⟨hxs, rfl⟩ := h1
  have h1 := HKB.out
  rw [kapp_may HMB.out.symm] at h1
  simp only [Prod.mk.injEq] at h1
  obtain ⟨hys, rfl⟩ := h1
  have hga := good_all HMA.out.symm HOA.out
  have hgb := good_all HMB.out.symm HOB.out
  have hrows : rowsL a b = bl xs ys := by rw [hxs, hys]; exact (rows_less a b hga hgb).symm
  have hsame : decide (a = b) = (xs == ys) := by
    rw [Bool.eq_iff_iff, decide_eq_true_iff, beq_iff_eq, hxs, hys]
    exact ⟨fun e => by rw [e], F_inj hga hgb⟩
  rw [hrows] at HR
  rw [hsame] at HS
  clear hrows hsame hxs hys
  go_wp2_with fail
  refine (M2.out w5 (hb.below hb05) hb05.size).mono ?_; rintro e w6 ⟨rfl, hb6⟩
  have hb06 : Below W.heap.size W w6 := hb05.trans (hb6.mono hb05.size)
  have CV1 : ∀ w', Below w6.heap.size w6 w' → (convert 22 9 (.slice A3 xs.length c3)).run Try.prog w' = .ok (.string ⟨xs.toArray⟩) w' := fun w' h => conv_own (own_bel (own_bel hown5 hb6) h)
  have CV2 : ∀ w', Below w6.heap.size w6 w' → (convert 22 9 (.slice A4 ys.length c4)).run Try.prog w' = .ok (.string ⟨ys.toArray⟩) w' := fun w' h => conv_own (own_bel (own_bel hown5' hb6) h)
  clear hown5 hown5'
  go_wp2_with fail
  refine ah_start 24 (fun w' => Below w6.heap.size w6 w') rfl (by kernel_rfl) (Below.refl _ _).drew ?_ ; intro hS
  (refine mv_val 0 (v := ?_) rfl (by kernel_rfl) (by kernel_rfl) (by kernel_rfl) (fun _ _ _ h => h) (by rfl) hS ?_ ?_; rotate_left; (focus (intro w hSw; (try dsimp only at hSw); (have f1 := CV1 w hSw; have f2 := CV2 w hSw); go_simp; first | done | with_reducible rfl)); simp only [Act.put, List.setIfInBounds_toArray, List.set_cons_zero, List.set_cons_succ])
  (refine mv_val 1 (v := ?_) rfl (by kernel_rfl) (by kernel_rfl) (by kernel_rfl) (fun _ _ _ h => h) (by rfl) hS ?_ ?_; rotate_left; (focus (intro w hSw; (try dsimp only at hSw); (have f1 := CV1 w hSw; have f2 := CV2 w hSw); go_simp; first | done | with_reducible rfl)); simp only [Act.put, List.setIfInBounds_toArray, List.set_cons_zero, List.set_cons_succ])
  (refine mv_val 2 (v := ?_) rfl (by kernel_rfl) (by kernel_rfl) (by kernel_rfl) (fun _ _ _ h => h) (by rfl) hS ?_ ?_; rotate_left; (focus (intro w hSw; (try dsimp only at hSw); (have f1 := CV1 w hSw; have f2 := CV2 w hSw); go_simp; first | done | with_reducible rfl)); simp only [Act.put, List.setIfInBounds_toArray, List.set_cons_zero, List.set_cons_succ])
  (refine mv_val 3 (v := ?_) rfl (by kernel_rfl) (by kernel_rfl) (by kernel_rfl) (fun _ _ _ h => h) (by rfl) hS ?_ ?_; rotate_left; (focus (intro w hSw; (try dsimp only at hSw); (have f1 := CV1 w hSw; have f2 := CV2 w hSw); go_simp; first | done | with_reducible rfl)); simp only [Act.put, List.setIfInBounds_toArray, List.set_cons_zero, List.set_cons_succ])
  (refine mv_val 4 (v := ?_) rfl (by kernel_rfl) (by kernel_rfl) (by kernel_rfl) (fun _ _ _ h => h) (by rfl) hS ?_ ?_; rotate_left; (focus (intro w hSw; (try dsimp only at hSw); (have f1 := CV1 w hSw; have f2 := CV2 w hSw); go_simp; first | done | with_reducible rfl)); simp only [Act.put, List.setIfInBounds_toArray, List.set_cons_zero, List.set_cons_succ])
  (refine mv_val 5 (v := ?_) rfl (by kernel_rfl) (by kernel_rfl) (by kernel_rfl) (fun _ _ _ h => h) (by rfl) hS ?_ ?_; rotate_left; (focus (intro w hSw; (try dsimp only at hSw); (have f1 := CV1 w hSw; have f2 := CV2 w hSw); go_simp; first | done | with_reducible rfl)); simp only [Act.put, List.setIfInBounds_toArray, List.set_cons_zero, List.set_cons_succ])
  (refine mv_val 6 (v := ?_) rfl (by kernel_rfl) (by kernel_rfl) (by kernel_rfl) (fun _ _ _ h => h) (by rfl) hS ?_ ?_; rotate_left; (focus (intro w hSw; (try dsimp only at hSw); (have f1 := CV1 w hSw; have f2 := CV2 w hSw); go_simp; first | done | with_reducible rfl)); simp only [Act.put, List.setIfInBounds_toArray, List.set_cons_zero, List.set_cons_succ])
  (refine mv_call 7 (f := ?_) (args := ?_) rfl (by kernel_rfl) (by rfl) ?_ ?_; rotate_left 2; (focus (go_simp; first | done | with_reducible rfl | (refine ⟨?_, ?_⟩ <;> with_reducible rfl))))
  refine (HR.out _ (ha.below (hb06.trans (hS.mono hb06.size))) (hb.below (hb06.trans (hS.mono hb06.size))) (hb06.trans (hS.mono hb06.size)).size).mono ?_; rintro e w8 ⟨rfl, bl8⟩
  have hS8 : Below w6.heap.size w6 w8 := hS.trans (bl8.mono hS.size)
  refine ⟨_, rfl, hS8, ?_⟩
  replace hS := hS8
  simp only [Act.put, List.setIfInBounds_toArray, List.set_cons_zero, List.set_cons_succ]
  (refine mv_val 8 (v := ?_) rfl (by kernel_rfl) (by kernel_rfl) (by kernel_rfl) (fun _ _ _ h => h) (by rfl) hS ?_ ?_; rotate_left; (focus (intro w hSw; (try dsimp only at hSw); (have f1 := CV1 w hSw; have f2 := CV2 w hSw); go_simp; first | done | with_reducible rfl)); simp only [Act.put, List.setIfInBounds_toArray, List.set_cons_zero, List.set_cons_succ])
  (refine mv_val 9 (v := ?_) rfl (by kernel_rfl) (by kernel_rfl) (by kernel_rfl) (fun _ _ _ h => h) (by rfl) hS ?_ ?_; rotate_left; (focus (intro w hSw; (try dsimp only at hSw); (have f1 := CV1 w hSw; have f2 := CV2 w hSw); go_simp; first | done | with_reducible rfl)); simp only [Act.put, List.setIfInBounds_toArray, List.set_cons_zero, List.set_cons_succ])
  (refine mv_val 10 (v := ?_) rfl (by kernel_rfl) (by kernel_rfl) (by kernel_rfl) (fun _ _ _ h => h) (by rfl) hS ?_ ?_; rotate_left; (focus (intro w hSw; (try dsimp only at hSw); (have f1 := CV1 w hSw; have f2 := CV2 w hSw); go_simp; first | done | with_reducible rfl)); simp only [Act.put, List.setIfInBounds_toArray, List.set_cons_zero, List.set_cons_succ])
  (refine mv_val 11 (v := ?_) rfl (by kernel_rfl) (by kernel_rfl) (by kernel_rfl) (fun _ _ _ h => h) (by rfl) hS ?_ ?_; rotate_left; (focus (intro w hSw; (try dsimp only at hSw); (have f1 := CV1 w hSw; have f2 := CV2 w hSw); go_simp; first | done | with_reducible rfl)); simp only [Act.put, List.setIfInBounds_toArray, List.set_cons_zero, List.set_cons_succ])
  (refine mv_val 12 (v := ?_) rfl (by kernel_rfl) (by kernel_rfl) (by kernel_rfl) (fun _ _ _ h => h) (by rfl) hS ?_ ?_; rotate_left; (focus (intro w hSw; (try dsimp only at hSw); (have f1 := CV1 w hSw; have f2 := CV2 w hSw); go_simp; first | done | with_reducible rfl)); simp only [Act.put, List.setIfInBounds_toArray, List.set_cons_zero, List.set_cons_succ])
  (refine mv_val 13 (v := ?_) rfl (by kernel_rfl) (by kernel_rfl) (by kernel_rfl) (fun _ _ _ h => h) (by rfl) hS ?_ ?_; rotate_left; (focus (intro w hSw; (try dsimp only at hSw); (have f1 := CV1 w hSw; have f2 := CV2 w hSw); go_simp; first | done | with_reducible rfl)); simp only [Act.put, List.setIfInBounds_toArray, List.set_cons_zero, List.set_cons_succ])
  (refine mv_val 14 (v := ?_) rfl (by kernel_rfl) (by kernel_rfl) (by kernel_rfl) (fun _ _ _ h => h) (by rfl) hS ?_ ?_; rotate_left; (focus (intro w hSw; (try dsimp only at hSw); (have f1 := CV1 w hSw; have f2 := CV2 w hSw); go_simp; first | done | with_reducible rfl)); simp only [Act.put, List.setIfInBounds_toArray, List.set_cons_zero, List.set_cons_succ])
  (refine mv_val 15 (v := ?_) rfl (by kernel_rfl) (by kernel_rfl) (by kernel_rfl) (fun _ _ _ h => h) (by rfl) hS ?_ ?_; rotate_left; (focus (intro w hSw; (try dsimp only at hSw); (have f1 := CV1 w hSw; have f2 := CV2 w hSw); go_simp; first | done | with_reducible rfl)); simp only [Act.put, List.setIfInBounds_toArray, List.set_cons_zero, List.set_cons_succ])
  (refine mv_val 16 (v := ?_) rfl (by kernel_rfl) (by kernel_rfl) (by kernel_rfl) (fun _ _ _ h => h) (by rfl) hS ?_ ?_; rotate_left; (focus (intro w hSw; (try dsimp only at hSw); (have f1 := CV1 w hSw; have f2 := CV2 w hSw); go_simp; first | done | with_reducible rfl)); simp only [Act.put, List.setIfInBounds_toArray, List.set_cons_zero, List.set_cons_succ])
  (refine mv_call 17 (f := ?_) (args := ?_) rfl (by kernel_rfl) (by rfl) ?_ ?_; rotate_left 2; (focus (go_simp; first | done | with_reducible rfl | (refine ⟨?_, ?_⟩ <;> with_reducible rfl))))
  refine (HS.out _ (ha.below (hb06.trans (hS.mono hb06.size))) (hb.below (hb06.trans (hS.mono hb06.size))) (hb06.trans (hS.mono hb06.size)).size).mono ?_; rintro e w9 ⟨rfl, bl9⟩
  have hS9 : Below w6.heap.size w6 w9 := hS.trans (bl9.mono hS.size)
  refine ⟨_, rfl, hS9, ?_⟩
  replace hS := hS9
  simp only [Act.put, List.setIfInBounds_toArray, List.set_cons_zero, List.set_cons_succ]
  (refine mv_val 18 (v := ?_) rfl (by kernel_rfl) (by kernel_rfl) (by kernel_rfl) (fun _ _ _ h => h) (by rfl) hS ?_ ?_; rotate_left; (focus (intro w hSw; (try dsimp only at hSw); (have f1 := CV1 w hSw; have f2 := CV2 w hSw); go_simp; first | done | with_reducible rfl)); simp only [Act.put, List.setIfInBounds_toArray, List.set_cons_zero, List.set_cons_succ])
  (refine mv_val 19 (v := ?_) rfl (by kernel_rfl) (by kernel_rfl) (by kernel_rfl) (fun _ _ _ h => h) (by rfl) hS ?_ ?_; rotate_left; (focus (intro w hSw; (try dsimp only at hSw); (have f1 := CV1 w hSw; have f2 := CV2 w hSw); go_simp; first | done | with_reducible rfl)); simp only [Act.put, List.setIfInBounds_toArray, List.set_cons_zero, List.set_cons_succ])
  (refine mv_val 20 (v := ?_) rfl (by kernel_rfl) (by kernel_rfl) (by kernel_rfl) (fun _ _ _ h => h) (by rfl) hS ?_ ?_; rotate_left; (focus (intro w hSw; (try dsimp only at hSw); (have f1 := CV1 w hSw; have f2 := CV2 w hSw); go_simp; first | done | with_reducible rfl)); simp only [Act.put, List.setIfInBounds_toArray, List.set_cons_zero, List.set_cons_succ])
  (refine mv_call 21 (f := ?_) (args := ?_) rfl (by kernel_rfl) (by rfl) ?_ ?_; rotate_left 2; (focus (go_simp; first | done | with_reducible rfl | (refine ⟨?_, ?_⟩ <;> with_reducible rfl))))
  refine (keys_any _).mono ?_; rintro e w10 ⟨rfl, bl10⟩
  have hS10 : Below w6.heap.size w6 w10 := hS.trans (bl10.mono hS.size)
  refine ⟨_, rfl, hS10, ?_⟩
  replace hS := hS10
  simp only [Act.put, List.setIfInBounds_toArray, List.set_cons_zero, List.set_cons_succ]
  (refine mv_val 22 (v := ?_) rfl (by kernel_rfl) (by kernel_rfl) (by kernel_rfl) (fun _ _ _ h => h) (by rfl) hS ?_ ?_; rotate_left; (focus (intro w hSw; (try dsimp only at hSw); (have f1 := CV1 w hSw; have f2 := CV2 w hSw); go_simp; first | done | with_reducible rfl)); simp only [Act.put, List.setIfInBounds_toArray, List.set_cons_zero, List.set_cons_succ])
  (refine mv_val 23 (v := ?_) rfl (by kernel_rfl) (by kernel_rfl) (by kernel_rfl) (fun _ _ _ h => h) (by rfl) hS ?_ ?_; rotate_left; (focus (intro w hSw; (try dsimp only at hSw); (have f1 := CV1 w hSw; have f2 := CV2 w hSw); go_simp; first | done | with_reducible rfl)); simp only [Act.put, List.setIfInBounds_toArray, List.set_cons_zero, List.set_cons_succ])
  refine wpAnyH_done (by kernel_rfl) ?_ _
  go_wp2_with fail
  go_ret
  exact ⟨rfl, hb06.trans (hS.mono hb06.size)⟩
end Go.Proofs.Ytdbhbfpfcdklmaa

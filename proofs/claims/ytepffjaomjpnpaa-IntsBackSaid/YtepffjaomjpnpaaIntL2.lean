/- The walk of the law IntsBack (layer 5): it answers true. No condition. -/
import Derived.Test.YtepffjaomjpnpaaIntL1
namespace Go.Proofs.Ytepffjaomjpnpaa
open Go.RowKit
set_option linter.unusedVariables false
set_option linter.unusedSimpArgs false

set_option maxHeartbeats 4000000 in
set_option maxRecDepth 100000 in
theorem intsBack_walk (A : Option Addr) (c : Nat) (l : List Int) (n : Int) (A' : Option Addr) (c' : Nat) (b : List UInt8) (W : World) (rd : Rd W W.heap.size A (num l)) (hl : l.length ≤ c ∧ c ≤ maxLen) (hi : ∀ v ∈ l, i64 v)
    (hn : i64 n) (rd' : Rd W W.heap.size A' (cells b)) (hb : b.length ≤ c' ∧ c' ≤ maxLen) :
    Calls Try.prog 5 #[.slice A l.length c, .int .i64 n, .slice A' b.length c'] W fun e w' => e = .returned (.bool true) ∧ Below W.heap.size W w' := by
  by_cases h5 : l.length ≤ 5000
  case neg =>
    have h5' : 5000 < l.length := by omega
    clear h5
    go_enter Try.func5, Try.ntmps5
    go_wp2
    go_ret
    exact ⟨rfl, Below.refl _ _⟩
  by_cases h1 : b.length ≤ 1000
  case neg =>
    have h1' : 1000 < b.length := by omega
    clear h1
    go_enter Try.func5, Try.ntmps5
    go_wp2
    go_ret
    exact ⟨rfl, Below.refl _ _⟩
  obtain ⟨hl1, hl2⟩ := hl
  obtain ⟨hb1, hb2⟩ := hb
  have II := iget_iput l hi (by omega) n
  have OK := iput_iget b n
  have ER := iget_err b n
  have hpl := iput_length l (by omega)
  have HN := Lib.hid hn
  have hlI : i64 (l.length : Int) := by unfold i64; omega
  obtain ⟨P, hP⟩ : ∃ P, P = iput l := ⟨_, rfl⟩
  rw [← hP] at II hpl
  obtain ⟨II1, II2⟩ := II
  obtain ⟨r2, hr2⟩ : ∃ r, r = iget P n := ⟨_, rfl⟩
  obtain ⟨r3, hr3⟩ : ∃ r, r = iget b n := ⟨_, rfl⟩
  rw [← hr2] at II2
  rw [← hr3] at OK ER
  have C1 : ∀ w, Below W.heap.size W w → Calls Try.prog 9 #[.slice A l.length c] w (RetB w P) := fun w hw => by
    rw [hP]; exact Put_ints A c l (by omega) w ((rd.below hw).more hw.size)
  have C2 : ∀ (A1 : Option Addr) (c1 : Nat) (w : World), Rd w w.heap.size A1 (cells P) → P.length ≤ c1 → Calls Try.prog 13 #[.slice A1 P.length c1, .int .i64 (l.length : Int)] w (RetI w (l, 0)) := fun A1 c1 w h hc => by
    rw [← II1]; exact Get_ints w.heap.size A1 c1 P _ w h (Nat.le_refl _) hc (by omega) hlI
  have C3 : ∀ (A1 : Option Addr) (c1 : Nat) (w : World), Rd w w.heap.size A1 (cells P) → P.length ≤ c1 → Calls Try.prog 13 #[.slice A1 P.length c1, .int .i64 n] w (RetI w r2) := fun A1 c1 w h hc => by
    rw [hr2]; exact Get_ints w.heap.size A1 c1 P _ w h (Nat.le_refl _) hc (by omega) HN.out
  have C4 : ∀ w, Below W.heap.size W w → Calls Try.prog 13 #[.slice A' b.length c', .int .i64 n] w (RetI w r3) := fun w hw => by
    rw [hr3]; exact Get_ints w.heap.size A' c' b _ w ((rd'.below hw).more hw.size) (Nat.le_refl _) hb1 (by omega) HN.out
  have K1 := Lib.hid C1
  have K2 := Lib.hid C2
  have K3 := Lib.hid C3
  have K4 := Lib.hid C4
  have HOK := Lib.hid OK
  have HER := Lib.hid ER
  have hx : ((r2.2 : Int) == 0) = (n == (l.length : Int)) := by
    rw [Bool.eq_iff_iff]; simp only [beq_iff_eq]
    rw [← II2]; omega
  have HX := Lib.hid hx
  obtain ⟨r2l, r2e⟩ := r2
  obtain ⟨r3l, r3e⟩ := r3
  dsimp only at HX HOK HER
  clear C1 C2 C3 C4 OK ER hr2 hr3 hP II1 II2 hx hi hn hlI
  go_enter Try.func5, Try.ntmps5
  go_wp2_with fail
  refine (K1.out _ (Below.refl _ _)).mono ?_; rintro e w1 ⟨A1, c1, rfl, hown1, bl1⟩
  have hc1 := own_le hown1
  have hz1 := bl1.size
  have hrd1 := rd_own hown1
  go_wp2_with fail
  refine (K2.out _ _ _ hrd1 hc1).mono ?_; rintro e w2 ⟨A2, c2, rfl, hown2, bl2⟩
  have hz2 := bl2.size
  have b2 : Below W.heap.size W w2 := bl1.trans (bl2.mono hz1)
  have SM := rSame_any w2.heap.size A2 A c2 c l l w2 (rd_own hown2) ((rd.below b2).more b2.size) (by omega)
  rw [decide_eq_true rfl] at SM
  have HSM := Lib.hid SM
  clear SM
  go_wp2_with fail
  refine HSM.out.mono ?_; rintro e w3 ⟨rfl, bl3⟩
  have hz3 := bl3.size
  have b3 : Below W.heap.size W w3 := b2.trans (bl3.mono b2.size)
  have hrd3 : Rd w3 w3.heap.size A1 (cells P) := (((hrd1.below bl2).more hz2).below bl3).more hz3
  go_wp2_with fail
  refine (K3.out _ _ _ hrd3 hc1).mono ?_; rintro e w4 ⟨A4, c4, rfl, hown4, bl4⟩
  have b4 : Below W.heap.size W w4 := b3.trans (bl4.mono b3.size)
  have hX := HX.out
  go_wp2_with fail
  refine (K4.out _ b4).mono ?_; rintro e w5 ⟨A5, c5, rfl, hown5, bl5⟩
  have b5 : Below W.heap.size W w5 := b4.trans (bl5.mono b4.size)
  have hz5 := b5.size
  clear hX
  by_cases h0 : r3e = 0
  case neg =>
    have he := HER.out h0
    have hne : ((r3e : Int) != 0) = true := by simpa using h0
    subst he
    clear HER HOK h0
    go_wp2_with fail
    refine (puts5_any _).mono ?_; rintro e w6 ⟨rfl, bl6⟩
    go_wp2_with fail
    go_ret
    exact ⟨rfl, b5.trans (bl6.mono hz5)⟩
  obtain ⟨o1, o2, o3, o4, o5⟩ := HOK.out h0
  subst h0
  have hrd5 := rd_own hown5
  have P5 := Put_ints A5 c5 r3l (by omega) w5.drew (hrd5.below (Below.refl _ _).drew)
  rw [o4] at P5
  have K5 := Lib.hid P5
  have hnI : ((r3l.length : Int) == n) = true := by simp [o3]
  clear P5 HER HOK o1 o2 o4 o5 o3
  have F2 : ∀ w', Below w5.heap.size w5 w' → (convert 23 9 (.slice A' b.length c')).run Try.prog w' = .ok (.string ⟨b.toArray⟩) w' := fun w' hw => conv_rd ((rd'.below b5).below (hw.mono hz5)) _
  go_wp2_with fail
  refine ah_start 16 (fun w' => Below w5.heap.size w5 w') rfl (by kernel_rfl) (Below.refl _ _).drew ?_
  intro hS
  (refine mv_val 0 (v := ?_) rfl (by kernel_rfl) (by kernel_rfl) (by kernel_rfl) (fun _ _ _ h => h) (by rfl) hS ?_ ?_; rotate_left; (focus (intro w hSw; (try dsimp only at hSw); (have f1 := hnI; have f2 := F2 w hSw); go_simp; first | done | with_reducible rfl)); simp only [Act.put, List.setIfInBounds_toArray, List.set_cons_zero, List.set_cons_succ])
  (refine mv_val 1 (v := ?_) rfl (by kernel_rfl) (by kernel_rfl) (by kernel_rfl) (fun _ _ _ h => h) (by rfl) hS ?_ ?_; rotate_left; (focus (intro w hSw; (try dsimp only at hSw); (have f1 := hnI; have f2 := F2 w hSw); go_simp; first | done | with_reducible rfl)); simp only [Act.put, List.setIfInBounds_toArray, List.set_cons_zero, List.set_cons_succ])
  (refine mv_val 2 (v := ?_) rfl (by kernel_rfl) (by kernel_rfl) (by kernel_rfl) (fun _ _ _ h => h) (by rfl) hS ?_ ?_; rotate_left; (focus (intro w hSw; (try dsimp only at hSw); (have f1 := hnI; have f2 := F2 w hSw); go_simp; first | done | with_reducible rfl)); simp only [Act.put, List.setIfInBounds_toArray, List.set_cons_zero, List.set_cons_succ])
  (refine mv_val 3 (v := ?_) rfl (by kernel_rfl) (by kernel_rfl) (by kernel_rfl) (fun _ _ _ h => h) (by rfl) hS ?_ ?_; rotate_left; (focus (intro w hSw; (try dsimp only at hSw); (have f1 := hnI; have f2 := F2 w hSw); go_simp; first | done | with_reducible rfl)); simp only [Act.put, List.setIfInBounds_toArray, List.set_cons_zero, List.set_cons_succ])
  (refine mv_val 4 (v := ?_) rfl (by kernel_rfl) (by kernel_rfl) (by kernel_rfl) (fun _ _ _ h => h) (by rfl) hS ?_ ?_; rotate_left; (focus (intro w hSw; (try dsimp only at hSw); (have f1 := hnI; have f2 := F2 w hSw); go_simp; first | done | with_reducible rfl)); simp only [Act.put, List.setIfInBounds_toArray, List.set_cons_zero, List.set_cons_succ])
  (refine mv_val 5 (v := ?_) rfl (by kernel_rfl) (by kernel_rfl) (by kernel_rfl) (fun _ _ _ h => h) (by rfl) hS ?_ ?_; rotate_left; (focus (intro w hSw; (try dsimp only at hSw); (have f1 := hnI; have f2 := F2 w hSw); go_simp; first | done | with_reducible rfl)); simp only [Act.put, List.setIfInBounds_toArray, List.set_cons_zero, List.set_cons_succ])
  (refine mv_val 8 (v := ?_) rfl (by kernel_rfl) (by kernel_rfl) (by kernel_rfl) (fun _ _ _ h => h) (by rfl) hS ?_ ?_; rotate_left; (focus (intro w hSw; (try dsimp only at hSw); (have f1 := hnI; have f2 := F2 w hSw); go_simp; first | done | with_reducible rfl)); simp only [Act.put, List.setIfInBounds_toArray, List.set_cons_zero, List.set_cons_succ])
  (refine mv_val 9 (v := ?_) rfl (by kernel_rfl) (by kernel_rfl) (by kernel_rfl) (fun _ _ _ h => h) (by rfl) hS ?_ ?_; rotate_left; (focus (intro w hSw; (try dsimp only at hSw); (have f1 := hnI; have f2 := F2 w hSw); go_simp; first | done | with_reducible rfl)); simp only [Act.put, List.setIfInBounds_toArray, List.set_cons_zero, List.set_cons_succ])
  (refine mv_call 6 (f := ?_) (args := ?_) rfl (by kernel_rfl) (by rfl) ?_ ?_; rotate_left 2; (focus (go_simp; first | done | with_reducible rfl | (refine ⟨?_, ?_⟩ <;> with_reducible rfl))))
  refine K5.out.mono ?_; rintro e w6 ⟨A6, c6, rfl, hown6, bl6⟩
  have hS6 : Below w5.heap.size w5 w6 := hS.trans (bl6.mono hS.size)
  have F1 : ∀ w', Below w6.heap.size w6 w' → (convert 23 9 (.slice A6 b.length c6)).run Try.prog w' = .ok (.string ⟨b.toArray⟩) w' := fun w' hw => conv_rd ((rd_own hown6).below hw) _
  refine ⟨_, rfl, hS6, ah_mono (S' := fun w' => Below w5.heap.size w5 w' ∧ Below w6.heap.size w6 w') (fun _ h => h.1) _ _ _ _ ?_⟩
  replace hS : Below w5.heap.size w5 w6 ∧ Below w6.heap.size w6 w6 := ⟨hS6, Below.refl _ _⟩
  simp only [Act.put, List.setIfInBounds_toArray, List.set_cons_zero, List.set_cons_succ]
  (refine mv_val 7 (v := ?_) rfl (by kernel_rfl) (by kernel_rfl) (by kernel_rfl) (fun _ _ _ h => h) (by rfl) hS ?_ ?_; rotate_left; (focus (intro w hSw; (try dsimp only at hSw); (have f1 := F1 w hSw.2; have f2 := F2 w hSw.1); go_simp; first | done | with_reducible rfl)); simp only [Act.put, List.setIfInBounds_toArray, List.set_cons_zero, List.set_cons_succ])
  (refine mv_val 10 (v := ?_) rfl (by kernel_rfl) (by kernel_rfl) (by kernel_rfl) (fun _ _ _ h => h) (by rfl) hS ?_ ?_; rotate_left; (focus (intro w hSw; (try dsimp only at hSw); (have f1 := F1 w hSw.2; have f2 := F2 w hSw.1); go_simp; first | done | with_reducible rfl)); simp only [Act.put, List.setIfInBounds_toArray, List.set_cons_zero, List.set_cons_succ])
  (refine mv_val 11 (v := ?_) rfl (by kernel_rfl) (by kernel_rfl) (by kernel_rfl) (fun _ _ _ h => h) (by rfl) hS ?_ ?_; rotate_left; (focus (intro w hSw; (try dsimp only at hSw); (have f1 := F1 w hSw.2; have f2 := F2 w hSw.1); go_simp; first | done | with_reducible rfl)); simp only [Act.put, List.setIfInBounds_toArray, List.set_cons_zero, List.set_cons_succ])
  (refine mv_val 12 (v := ?_) rfl (by kernel_rfl) (by kernel_rfl) (by kernel_rfl) (fun _ _ _ h => h) (by rfl) hS ?_ ?_; rotate_left; (focus (intro w hSw; (try dsimp only at hSw); (have f1 := F1 w hSw.2; have f2 := F2 w hSw.1); go_simp; first | done | with_reducible rfl)); simp only [Act.put, List.setIfInBounds_toArray, List.set_cons_zero, List.set_cons_succ])
  (refine mv_call 13 (f := ?_) (args := ?_) rfl (by kernel_rfl) (by rfl) ?_ ?_; rotate_left 2; (focus (go_simp; first | done | with_reducible rfl | (refine ⟨?_, ?_⟩ <;> with_reducible rfl))))
  refine (puts5_any _).mono ?_; rintro e w7 ⟨rfl, bl7⟩
  have hS7 : Below w5.heap.size w5 w7 ∧ Below w6.heap.size w6 w7 := ⟨hS.1.trans (bl7.mono hS.1.size), hS.2.trans (bl7.mono hS.2.size)⟩
  refine ⟨_, rfl, hS7, ?_⟩
  replace hS := hS7
  simp only [Act.put, List.setIfInBounds_toArray, List.set_cons_zero, List.set_cons_succ]
  (refine mv_val 14 (v := ?_) rfl (by kernel_rfl) (by kernel_rfl) (by kernel_rfl) (fun _ _ _ h => h) (by rfl) hS ?_ ?_; rotate_left; (focus (intro w hSw; (try dsimp only at hSw); (have f1 := F1 w hSw.2; have f2 := F2 w hSw.1); go_simp; first | done | with_reducible rfl)); simp only [Act.put, List.setIfInBounds_toArray, List.set_cons_zero, List.set_cons_succ])
  (refine mv_val 15 (v := ?_) rfl (by kernel_rfl) (by kernel_rfl) (by kernel_rfl) (fun _ _ _ h => h) (by rfl) hS ?_ ?_; rotate_left; (focus (intro w hSw; (try dsimp only at hSw); (have f1 := F1 w hSw.2; have f2 := F2 w hSw.1); go_simp; first | done | with_reducible rfl)); simp only [Act.put, List.setIfInBounds_toArray, List.set_cons_zero, List.set_cons_succ])
  refine wpAnyH_done (by kernel_rfl) ?_ _
  go_wp2_with fail
  go_ret
  exact ⟨rfl, b5.trans (hS.1.mono hz5)⟩
end Go.Proofs.Ytepffjaomjpnpaa

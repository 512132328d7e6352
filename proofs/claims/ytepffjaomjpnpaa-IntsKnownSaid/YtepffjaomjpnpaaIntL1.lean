/- The walks of the laws IntsPuts and IntsGets (layer 5): they answer true. No condition. -/
import Derived.Test.YtepffjaomjpnpaaIntRun
import Derived.Test.YtepffjaomjpnpaaIntRefG
import Derived.Test.YtepffjaomjpnpaaWord
import Derived.Test.YtepffjaomjpnpaaMove
import Derived.Deep.AppendLies
namespace Go.Proofs.Ytepffjaomjpnpaa
open Go.RowKit
set_option linter.unusedVariables false
set_option linter.unusedSimpArgs false

theorem iput_ex : iput [10, 20, 30, 40] = [1, 20, 3, 0] := by
  have h : rl 0 0 (chg 0 0 [10, 20, 30, 40]) = [(1, 10), (3, 0)] := by decide +kernel
  unfold iput
  rw [h]
  simp only [List.flatMap_cons, List.flatMap_nil, enc1]
  rw [vput_small (by omega), show (zig 10).toNat = 20 from rfl, vput_small (by omega), vput_small (by omega), show (zig 0).toNat = 0 from rfl, vput_small (by omega)]
  rfl
theorem iget_ex : iget [1, 20, 3, 0] 4 = ([10, 20, 30, 40], 0) := by decide +kernel

set_option maxRecDepth 100000 in
theorem puts5_any (w : World) : Calls Try.prog 12 #[] w fun e w' => e = .returned (.bool true) ∧ Below w.heap.size w w' := by
  have G1 : ∀ (A : Option Addr) (w : World), Rd w w.heap.size A (cells [1, 20, 3, 0]) → Calls Try.prog 13 #[.slice A 4 4, .int .i64 4] w (RetI w ([10, 20, 30, 40], 0)) := fun A w h => by
    rw [← iget_ex]; exact Get_ints w.heap.size A 4 [1, 20, 3, 0] 4 w h (Nat.le_refl _) (by decide) (by decide) (by unfold i64; omega)
  have P1 : ∀ (A : Option Addr) (w : World), Rd w w.heap.size A (num [10, 20, 30, 40]) → Calls Try.prog 9 #[.slice A 4 4] w (RetB w [1, 20, 3, 0]) := fun A w h => by
    rw [← iput_ex]; exact Put_ints A 4 [10, 20, 30, 40] (by decide) w h
  have H1 := Lib.hid G1
  have H2 := Lib.hid P1
  clear G1 P1
  go_enter Try.func12, Try.ntmps12
  go_wp2_with fail
  refine (H1.out _ _ (by exact rd_arr _ (cells [1, 20, 3, 0]) _ _ _ rfl (by simp))).mono ?_; rintro e w1 ⟨A1, c1, rfl, hown1, hb1⟩
  have hz1 := hb1.size; simp at hz1
  have b1 : Below w.heap.size w w1 := ((Below.refl _ _).alloc (Nat.le_refl _) _).trans (hb1.mono (by simp))
  go_wp2_with fail
  refine (H2.out _ _ (by exact rd_arr _ (num [10, 20, 30, 40]) _ _ _ rfl (by simp))).mono ?_; rintro e w2 ⟨A2, c2, rfl, hown2, hb2⟩
  have hz2 := hb2.size; simp at hz2
  have b2 : Below w.heap.size w w2 := (b1.alloc b1.size _).trans (hb2.mono (by simp; omega))
  have hcv : (convert 23 9 (.slice A2 4 c2)).run Try.prog w2 = .ok (.string ⟨#[1, 20, 3, 0]⟩) w2 := conv_own hown2
  obtain ⟨g, cap, hA, hga, hgb⟩ := Go.World.ownsRow.form hown1 (by decide)
  simp only [Value.slice.injEq] at hA
  obtain ⟨rfl, -, rfl⟩ := hA
  have hc3 : w2.cell? ⟨g, 3, none⟩ = some (.int .i64 40) := by
    rw [hb2.cell (p := ⟨g, 3, none⟩) (by show g < _; simp; omega), World.cell?_alloc_lt _ _ _ hgb]
    exact hown1.cellAt 3 (by decide)
  go_wp2_with fail
  go_ret
  exact ⟨rfl, b2⟩

set_option maxHeartbeats 1000000 in
set_option maxRecDepth 100000 in
theorem intsPuts_walk (A : Option Addr) (c : Nat) (l : List Int) (W : World) (rd : Rd W W.heap.size A (num l)) (hl : l.length ≤ c ∧ c ≤ maxLen) (hi : ∀ v ∈ l, i64 v) :
    Calls Try.prog 3 #[.slice A l.length c] W fun e w' => e = .returned (.bool true) ∧ Below W.heap.size W w' := by
  by_cases h5 : l.length ≤ 5000
  case neg =>
    go_enter Try.func3, Try.ntmps3
    go_wp2
    go_ret
    exact ⟨rfl, Below.refl _ _⟩
  go_enter Try.func3, Try.ntmps3
  have hmade := World.ownsRow_made (base := W.heap.size) (e := 2) (size := 1) W #[] 0 (Nat.le_refl _) (by decide) rfl
  have hone : ∀ u ∈ num l, u.oneCell' = true := by intro u hu; obtain ⟨x, _, rfl⟩ := List.mem_map.1 hu; rfl
  go_wp2_with (at_builtin; refine wpList_app El_i64 rfl _ _ rfl hmade rfl rfl (rd.alloc (Nat.le_refl _) _) (by simp) hone (by unfold maxLen; omega) (by omega) (by simp) ?_; intro v1 w1 hown1 hg1 _)
  have hb1 : Below W.heap.size W w1 := ((Below.refl _ _).alloc (Nat.le_refl _) _).trans (own_below hmade hg1 (by simp))
  have hz1 := hb1.size
  rw [Nat.zero_add, List.nil_append] at hown1
  obtain ⟨A1, c1, rfl, hc1⟩ := own_form hown1
  have hrd1 := rd_own hown1
  have hrdl : Rd w1 w1.heap.size A (num l) := (rd.below hb1).more hz1
  refine ah_start 16 (fun w' => Below w1.heap.size w1 w') rfl (by kernel_rfl) (Below.refl _ _).drew ?_
  intro hS
  (refine mv_val 0 (v := ?_) rfl (by kernel_rfl) (by kernel_rfl) (by kernel_rfl) (fun _ _ _ h => h) (by rfl) hS ?_ ?_; rotate_left; (focus (intro w hSw; (try dsimp only at hSw); (skip); go_simp; first | done | with_reducible rfl)); simp only [Act.put, List.setIfInBounds_toArray, List.set_cons_zero, List.set_cons_succ])
  (refine mv_val 3 (v := ?_) rfl (by kernel_rfl) (by kernel_rfl) (by kernel_rfl) (fun _ _ _ h => h) (by rfl) hS ?_ ?_; rotate_left; (focus (intro w hSw; (try dsimp only at hSw); (skip); go_simp; first | done | with_reducible rfl)); simp only [Act.put, List.setIfInBounds_toArray, List.set_cons_zero, List.set_cons_succ])
  (refine mv_call 1 (f := ?_) (args := ?_) rfl (by kernel_rfl) (by rfl) ?_ ?_; rotate_left 2; (focus (go_simp; first | done | with_reducible rfl | (refine ⟨?_, ?_⟩ <;> with_reducible rfl))))
  refine (Put_ints A1 c1 l (by omega) w1.drew (hrd1.below hS)).mono ?_; rintro e w2 ⟨A2, c2, rfl, hown2, hb2⟩
  have hS2 : Below w1.heap.size w1 w2 := hS.trans (hb2.mono hS.size)
  have F2 : ∀ w', Below w2.heap.size w2 w' → (convert 23 9 (.slice A2 (iput l).length c2)).run Try.prog w' = .ok (.string ⟨(iput l).toArray⟩) w' := fun w' hw => conv_rd ((rd_own hown2).below hw) _
  refine ⟨_, rfl, hS2, ah_mono (S' := fun w' => Below w1.heap.size w1 w' ∧ Below w2.heap.size w2 w') (fun _ h => h.1) _ _ _ _ ?_⟩
  replace hS : Below w1.heap.size w1 w2 ∧ Below w2.heap.size w2 w2 := ⟨hS2, Below.refl _ _⟩
  simp only [Act.put, List.setIfInBounds_toArray, List.set_cons_zero, List.set_cons_succ]
  (refine mv_val 2 (v := ?_) rfl (by kernel_rfl) (by kernel_rfl) (by kernel_rfl) (fun _ _ _ h => h) (by rfl) hS ?_ ?_; rotate_left; (focus (intro w hSw; (try dsimp only at hSw); (have f2 := F2 w hSw.2); go_simp; first | done | with_reducible rfl)); simp only [Act.put, List.setIfInBounds_toArray, List.set_cons_zero, List.set_cons_succ])
  (refine mv_call 4 (f := ?_) (args := ?_) rfl (by kernel_rfl) (by rfl) ?_ ?_; rotate_left 2; (focus (go_simp; first | done | with_reducible rfl | (refine ⟨?_, ?_⟩ <;> with_reducible rfl))))
  refine (rPut_ints w1.heap.size A c l _ (hrdl.below hS.1) hS.1.size (by omega)).mono ?_; rintro e w3 ⟨A3, c3, rfl, hown3, hb3⟩
  have hS3 : Below w1.heap.size w1 w3 ∧ Below w2.heap.size w2 w3 := ⟨hS.1.trans (hb3.mono hS.1.size), hb3⟩
  have F3 : ∀ w', Below w3.heap.size w3 w' → (convert 23 9 (.slice A3 (iput l).length c3)).run Try.prog w' = .ok (.string ⟨(iput l).toArray⟩) w' := fun w' hw => conv_rd ((rd_own hown3).below hw) _
  refine ⟨_, rfl, hS3, ah_mono (S' := fun w' => (Below w1.heap.size w1 w' ∧ Below w2.heap.size w2 w') ∧ Below w3.heap.size w3 w') (fun _ h => h.1) _ _ _ _ ?_⟩
  replace hS : (Below w1.heap.size w1 w3 ∧ Below w2.heap.size w2 w3) ∧ Below w3.heap.size w3 w3 := ⟨hS3, Below.refl _ _⟩
  simp only [Act.put, List.setIfInBounds_toArray, List.set_cons_zero, List.set_cons_succ]
  (refine mv_val 5 (v := ?_) rfl (by kernel_rfl) (by kernel_rfl) (by kernel_rfl) (fun _ _ _ h => h) (by rfl) hS ?_ ?_; rotate_left; (focus (intro w hSw; (try dsimp only at hSw); (have f2 := F2 w hSw.1.2; have f3 := F3 w hSw.2); go_simp; first | done | with_reducible rfl)); simp only [Act.put, List.setIfInBounds_toArray, List.set_cons_zero, List.set_cons_succ])
  (refine mv_val 6 (v := ?_) rfl (by kernel_rfl) (by kernel_rfl) (by kernel_rfl) (fun _ _ _ h => h) (by rfl) hS ?_ ?_; rotate_left; (focus (intro w hSw; (try dsimp only at hSw); (have f2 := F2 w hSw.1.2; have f3 := F3 w hSw.2); go_simp; first | done | with_reducible rfl)); simp only [Act.put, List.setIfInBounds_toArray, List.set_cons_zero, List.set_cons_succ])
  (refine mv_val 7 (v := ?_) rfl (by kernel_rfl) (by kernel_rfl) (by kernel_rfl) (fun _ _ _ h => h) (by rfl) hS ?_ ?_; rotate_left; (focus (intro w hSw; (try dsimp only at hSw); (have f2 := F2 w hSw.1.2; have f3 := F3 w hSw.2); go_simp; first | done | with_reducible rfl)); simp only [Act.put, List.setIfInBounds_toArray, List.set_cons_zero, List.set_cons_succ])
  (refine mv_val 8 (v := ?_) rfl (by kernel_rfl) (by kernel_rfl) (by kernel_rfl) (fun _ _ _ h => h) (by rfl) hS ?_ ?_; rotate_left; (focus (intro w hSw; (try dsimp only at hSw); (have f2 := F2 w hSw.1.2; have f3 := F3 w hSw.2); go_simp; first | done | with_reducible rfl)); simp only [Act.put, List.setIfInBounds_toArray, List.set_cons_zero, List.set_cons_succ])
  (refine mv_val 9 (v := ?_) rfl (by kernel_rfl) (by kernel_rfl) (by kernel_rfl) (fun _ _ _ h => h) (by rfl) hS ?_ ?_; rotate_left; (focus (intro w hSw; (try dsimp only at hSw); (have f2 := F2 w hSw.1.2; have f3 := F3 w hSw.2); go_simp; first | done | with_reducible rfl)); simp only [Act.put, List.setIfInBounds_toArray, List.set_cons_zero, List.set_cons_succ])
  (refine mv_call 10 (f := ?_) (args := ?_) rfl (by kernel_rfl) (by rfl) ?_ ?_; rotate_left 2; (focus (go_simp; first | done | with_reducible rfl | (refine ⟨?_, ?_⟩ <;> with_reducible rfl))))
  refine (rSame_any w3.heap.size A1 A c1 c l l _ ((hrd1.below hS.1.1).more hS.1.1.size) ((hrdl.below hS.1.1).more hS.1.1.size) (by omega)).mono ?_; rw [decide_eq_true rfl]; rintro e w4 ⟨rfl, hb4⟩
  refine ⟨_, rfl, ⟨⟨hS.1.1.trans (hb4.mono hS.1.1.size), hS.1.2.trans (hb4.mono hS.1.2.size)⟩, hb4⟩, ?_⟩
  replace hS : (Below w1.heap.size w1 w4 ∧ Below w2.heap.size w2 w4) ∧ Below w3.heap.size w3 w4 := ⟨⟨hS.1.1.trans (hb4.mono hS.1.1.size), hS.1.2.trans (hb4.mono hS.1.2.size)⟩, hb4⟩
  simp only [Act.put, List.setIfInBounds_toArray, List.set_cons_zero, List.set_cons_succ]
  (refine mv_val 11 (v := ?_) rfl (by kernel_rfl) (by kernel_rfl) (by kernel_rfl) (fun _ _ _ h => h) (by rfl) hS ?_ ?_; rotate_left; (focus (intro w hSw; (try dsimp only at hSw); (have f2 := F2 w hSw.1.2; have f3 := F3 w hSw.2); go_simp; first | done | with_reducible rfl)); simp only [Act.put, List.setIfInBounds_toArray, List.set_cons_zero, List.set_cons_succ])
  (refine mv_val 12 (v := ?_) rfl (by kernel_rfl) (by kernel_rfl) (by kernel_rfl) (fun _ _ _ h => h) (by rfl) hS ?_ ?_; rotate_left; (focus (intro w hSw; (try dsimp only at hSw); (have f2 := F2 w hSw.1.2; have f3 := F3 w hSw.2); go_simp; first | done | with_reducible rfl)); simp only [Act.put, List.setIfInBounds_toArray, List.set_cons_zero, List.set_cons_succ])
  (refine mv_call 13 (f := ?_) (args := ?_) rfl (by kernel_rfl) (by rfl) ?_ ?_; rotate_left 2; (focus (go_simp; first | done | with_reducible rfl | (refine ⟨?_, ?_⟩ <;> with_reducible rfl))))
  refine (puts5_any _).mono ?_; rintro e w5 ⟨rfl, hb5⟩
  have hS5 : (Below w1.heap.size w1 w5 ∧ Below w2.heap.size w2 w5) ∧ Below w3.heap.size w3 w5 := ⟨⟨hS.1.1.trans (hb5.mono hS.1.1.size), hS.1.2.trans (hb5.mono hS.1.2.size)⟩, hS.2.trans (hb5.mono hS.2.size)⟩
  refine ⟨_, rfl, hS5, ?_⟩
  replace hS := hS5
  simp only [Act.put, List.setIfInBounds_toArray, List.set_cons_zero, List.set_cons_succ]
  (refine mv_val 14 (v := ?_) rfl (by kernel_rfl) (by kernel_rfl) (by kernel_rfl) (fun _ _ _ h => h) (by rfl) hS ?_ ?_; rotate_left; (focus (intro w hSw; (try dsimp only at hSw); (have f2 := F2 w hSw.1.2; have f3 := F3 w hSw.2); go_simp; first | done | with_reducible rfl)); simp only [Act.put, List.setIfInBounds_toArray, List.set_cons_zero, List.set_cons_succ])
  (refine mv_val 15 (v := ?_) rfl (by kernel_rfl) (by kernel_rfl) (by kernel_rfl) (fun _ _ _ h => h) (by rfl) hS ?_ ?_; rotate_left; (focus (intro w hSw; (try dsimp only at hSw); (have f2 := F2 w hSw.1.2; have f3 := F3 w hSw.2); go_simp; first | done | with_reducible rfl)); simp only [Act.put, List.setIfInBounds_toArray, List.set_cons_zero, List.set_cons_succ])
  refine wpAnyH_done (by kernel_rfl) ?_ _
  go_wp2_with fail
  go_ret
  exact ⟨rfl, hb1.trans (hS.1.1.mono hz1)⟩

set_option maxHeartbeats 2000000 in
set_option maxRecDepth 100000 in
theorem intsGets_walk (A : Option Addr) (c : Nat) (l : List UInt8) (n : Int) (W : World) (rd : Rd W W.heap.size A (cells l)) (hl : l.length ≤ c ∧ c ≤ maxLen) (hn : i64 n) :
    Calls Try.prog 4 #[.slice A l.length c, .int .i64 n] W fun e w' => e = .returned (.bool true) ∧ Below W.heap.size W w' := by
  by_cases h5 : l.length ≤ 1000
  case neg =>
    go_enter Try.func4, Try.ntmps4
    go_wp2
    go_ret
    exact ⟨rfl, Below.refl _ _⟩
  obtain ⟨hl1, hl2⟩ := hl
  have HN := Lib.hid hn
  clear hn
  go_enter Try.func4, Try.ntmps4
  have hmade := World.ownsRow_made (base := W.heap.size) (e := 5) (size := 1) W #[] 0 (Nat.le_refl _) (by decide) rfl
  go_wp2_with (at_builtin; refine wpList_app El_u8 rfl _ _ rfl hmade rfl rfl (rd.alloc (Nat.le_refl _) _) (by simp) (cells_one l) (by unfold maxLen; omega) (by omega) (by simp) ?_; intro v1 w1 hown1 hg1 _; rw [Nat.zero_add, List.nil_append] at hown1; obtain ⟨A1, c1, rfl, hc1⟩ := own_form hown1)
  have hb1 : Below W.heap.size W w1 := ((Below.refl _ _).alloc (Nat.le_refl _) _).trans (own_below hmade hg1 (by simp))
  have hz1 := hb1.size
  have hrd1 := rd_own hown1
  refine (Get_ints w1.heap.size A1 c1 l n w1 hrd1 (Nat.le_refl _) hc1 (by omega) HN.out).mono ?_; rintro e w2 ⟨A2, c2, rfl, hown2, hb2⟩
  have hb2' : Below W.heap.size W w2 := hb1.trans (hb2.mono hz1)
  have hz2 := hb2'.size
  go_wp2_with fail
  refine (rGet_ints W.heap.size A c l n w2 (rd.below hb2') hz2 hl1 (by omega) HN.out).mono ?_; rintro e w3 ⟨A3, c3, rfl, hown3, hb3⟩
  have hb3' : Below W.heap.size W w3 := hb2'.trans (hb3.mono hz2)
  have hz3 := hb3'.size
  have hlen : (iget l n).1.length ≤ 65536 := by
    by_cases h0 : (iget l n).2 = 0
    · have := iput_iget l n h0; omega
    · rw [iget_err l n h0]; simp
  have SM := rSame_any w3.heap.size A2 A3 c2 c3 (iget l n).1 (iget l n).1 w3 ((rd_own hown2).below hb3 |>.more hb3.size) (rd_own hown3) (by omega)
  rw [decide_eq_true rfl] at SM
  obtain ⟨r, hr⟩ : ∃ r, r = iget l n := ⟨_, rfl⟩
  rw [← hr] at SM
  rw [← hr]
  have HSM := Lib.hid SM
  clear SM hr
  go_wp2_with fail
  refine HSM.out.mono ?_; rintro e w4 ⟨rfl, hb4⟩
  have hcv1 : (convert 23 9 (.slice A1 l.length c1)).run Try.prog w4 = .ok (.string ⟨l.toArray⟩) w4 :=
    conv_rd ((hrd1.below hb2).below ((hb3.mono hb2.size).trans (hb4.mono (by have := hb2.size; have := hb3.size; omega)))) _
  have hcv2 : (convert 23 9 (.slice A l.length c)).run Try.prog w4 = .ok (.string ⟨l.toArray⟩) w4 :=
    conv_rd (rd.below (hb3'.trans (hb4.mono hz3))) _
  go_wp2_with fail
  refine (puts5_any _).mono ?_; rintro e w5 ⟨rfl, hb5⟩
  go_wp2_with fail
  go_ret
  exact ⟨rfl, (hb3'.trans (hb4.mono hz3)).trans (hb5.mono (by have := hb4.size; omega))⟩
end Go.Proofs.Ytepffjaomjpnpaa

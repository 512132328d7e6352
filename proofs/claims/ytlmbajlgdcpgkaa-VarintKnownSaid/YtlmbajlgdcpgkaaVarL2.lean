/- The walk of VarintPuts. -/
import Derived.Test.YtlmbajlgdcpgkaaVarL
import Derived.Test.YtlmbajlgdcpgkaaMove
import Derived.Deep.AppendLies
namespace Go.Proofs.Ytlmbajlgdcpgkaa
open Go.RowKit

theorem bytes_app (a b : List UInt8) : (⟨a.toArray⟩ : ByteArray) ++ ⟨b.toArray⟩ = ⟨(a ++ b).toArray⟩ := by
  apply ByteArray.ext
  simp

set_option linter.unusedSimpArgs false
set_option linter.unusedVariables false
set_option maxHeartbeats 1000000 in
set_option maxRecDepth 100000 in
theorem varintPuts_walk (A : Option Addr) (c : Nat) (l : List UInt8) (x : Int) (W : World) (rd : Rd W W.heap.size A (cells l)) (hl : l.length ≤ c ∧ c ≤ maxLen) (hx0 : 0 ≤ x ∧ x < 18446744073709551616) :
    Calls Try.prog 3 #[.slice A l.length c, .int .u64 x] W fun e w' => e = .returned (.bool true) ∧ Below W.heap.size W w' := by
  obtain ⟨v, rfl⟩ := Int.eq_ofNat_of_zero_le hx0.1
  have hx : v < 18446744073709551616 := by omega
  by_cases h1000 : l.length ≤ 1000
  case neg =>
    go_enter Try.func3, Try.ntmps3
    go_wp2
    go_ret
    exact ⟨rfl, Below.refl _ _⟩
  go_enter Try.func3, Try.ntmps3
  have hmade := World.ownsRow_made (base := W.heap.size) (e := 5) (size := 1) W #[] 0 (Nat.le_refl _) (by decide) rfl
  go_wp2_with (first
    | (at_builtin; refine wpList_app El_u8 rfl _ _ rfl hmade rfl rfl (rd.alloc (Nat.le_refl _) _) (by simp) (cells_one l) (by unfold maxLen; omega) (by omega) (by simp) ?_; intro v1 w1 hown1 hg1 _
       have hb1 : Below W.heap.size W w1 := ((Below.refl _ _).alloc (Nat.le_refl _) _).trans (own_below hmade hg1 (by simp))
       have hz1 := hb1.size
       rw [Nat.zero_add, List.nil_append] at hown1)
    | (at_builtin; refine wpList_app El_u8 rfl _ _ rfl (hown1.alloc _) rfl rfl (by exact rd_one _ _ _ _ _ rfl (Nat.lt_add_one _)) rfl one_int (by unfold maxLen; omega) (by omega) (by simp; omega) ?_; intro v2 w2 hown2 hg2 _
       have hb2 : Below W.heap.size W w2 := (hb1.alloc hz1 _).trans (own_below (hown1.alloc _) hg2 (by simp; omega))
       have hz2 := hb2.size
       obtain ⟨A2, c2, rfl, hc2⟩ := own_form hown2
       have hrd2 := rd_own hown2
       have hrd2l := hrd2.take l.length
       rw [List.take_left' (by simp)] at hrd2l))
  refine (Put_any w2.heap.size A2 c2 l v hx w2 hrd2l (by omega)).mono ?_; rintro e w3 ⟨A3, c3, rfl, hown3, hb3⟩
  have hb3' : Below W.heap.size W w3 := hb2.trans (hb3.mono hz2)
  have hz3 := hb3.size
  obtain ⟨g2, cap2, hA2, hg2a, hg2b⟩ := Go.World.ownsRow.form hown2 (by omega)
  simp only [Value.slice.injEq] at hA2
  obtain ⟨rfl, -, rfl⟩ := hA2
  have F1 : ∀ w', Below w3.heap.size w3 w' → (convert 22 9 (.slice A3 (l.length + (vput v).length) c3)).run Try.prog w' = .ok (.string ⟨(l ++ vput v).toArray⟩) w' := fun w' hw => by
    rw [← List.length_append]
    exact conv_rd ((rd_own hown3).below hw) _
  have F2 : ∀ w', Below w3.heap.size w3 w' → (convert 22 9 (.slice A l.length c)).run Try.prog w' = .ok (.string ⟨l.toArray⟩) w' := fun w' hw =>
    conv_rd ((rd.below hb3').below (hw.mono (by omega))) _
  have F3 : ∀ w', Below w3.heap.size w3 w' → w'.cell? ⟨g2, l.length, none⟩ = some (.int .u8 7) := fun w' hw => by
    rw [hw.cell (p := ⟨g2, l.length, none⟩) (by show g2 < _; omega), hb3.cell (p := ⟨g2, l.length, none⟩) hg2b, hown2.cellAt l.length (by omega)]
    simp
  go_wp2_with fail
  refine ah_start 21 (fun w' => Below w3.heap.size w3 w') rfl (by kernel_rfl) (Below.refl _ _).drew ?_
  intro hS
  (refine mv_val 0 (v := ?_) rfl (by kernel_rfl) (by kernel_rfl) (by kernel_rfl) (fun _ _ _ h => h) (by rfl) hS ?_ ?_; rotate_left; (focus (intro w hSw; (try dsimp only at hSw); (have f1 := F1 w hSw; have f2 := F2 w hSw; have f3 := F3 w hSw); go_simp; first | done | with_reducible rfl)); simp only [Act.put, List.setIfInBounds_toArray, List.set_cons_zero, List.set_cons_succ])
  (refine mv_val 1 (v := ?_) rfl (by kernel_rfl) (by kernel_rfl) (by kernel_rfl) (fun _ _ _ h => h) (by rfl) hS ?_ ?_; rotate_left; (focus (intro w hSw; (try dsimp only at hSw); (have f1 := F1 w hSw; have f2 := F2 w hSw; have f3 := F3 w hSw); go_simp; first | done | with_reducible rfl)); simp only [Act.put, List.setIfInBounds_toArray, List.set_cons_zero, List.set_cons_succ])
  (refine mv_val 2 (v := ?_) rfl (by kernel_rfl) (by kernel_rfl) (by kernel_rfl) (fun _ _ _ h => h) (by rfl) hS ?_ ?_; rotate_left; (focus (intro w hSw; (try dsimp only at hSw); (have f1 := F1 w hSw; have f2 := F2 w hSw; have f3 := F3 w hSw); go_simp; first | done | with_reducible rfl)); simp only [Act.put, List.setIfInBounds_toArray, List.set_cons_zero, List.set_cons_succ])
  (refine mv_val 3 (v := ?_) rfl (by kernel_rfl) (by kernel_rfl) (by kernel_rfl) (fun _ _ _ h => h) (by rfl) hS ?_ ?_; rotate_left; (focus (intro w hSw; (try dsimp only at hSw); (have f1 := F1 w hSw; have f2 := F2 w hSw; have f3 := F3 w hSw); go_simp; first | done | with_reducible rfl)); simp only [Act.put, List.setIfInBounds_toArray, List.set_cons_zero, List.set_cons_succ])
  (refine mv_val 4 (v := ?_) rfl (by kernel_rfl) (by kernel_rfl) (by kernel_rfl) (fun _ _ _ h => h) (by rfl) hS ?_ ?_; rotate_left; (focus (intro w hSw; (try dsimp only at hSw); (have f1 := F1 w hSw; have f2 := F2 w hSw; have f3 := F3 w hSw); go_simp; first | done | with_reducible rfl)); simp only [Act.put, List.setIfInBounds_toArray, List.set_cons_zero, List.set_cons_succ])
  (refine mv_call 5 (f := ?_) (args := ?_) rfl (by kernel_rfl) (by rfl) ?_ ?_; rotate_left 2; (focus (go_simp; first | done | with_reducible rfl | (refine ⟨?_, ?_⟩ <;> with_reducible rfl))))
  refine (rPut_any v hx _).mono ?_; rintro e w4 ⟨A4, c4, rfl, hown4, hb4⟩
  have hS4 : Below w3.heap.size w3 w4 := hS.trans hb4
  have F4 : ∀ w', Below w4.heap.size w4 w' → (convert 22 9 (.slice A4 (vput v).length c4)).run Try.prog w' = .ok (.string ⟨(vput v).toArray⟩) w' := fun w' hw => conv_rd ((rd_own hown4).below hw) _
  refine ⟨_, rfl, hS4, ah_mono (S' := fun w' => Below w3.heap.size w3 w' ∧ Below w4.heap.size w4 w') (fun _ h => h.1) _ _ _ _ ?_⟩
  replace hS : Below w3.heap.size w3 w4 ∧ Below w4.heap.size w4 w4 := ⟨hS4, Below.refl _ _⟩
  have hcat : (⟨l.toArray⟩ : ByteArray) ++ ⟨(vput v).toArray⟩ = ⟨(l ++ vput v).toArray⟩ := bytes_app _ _
  have hnl : ¬ (9223372036854775807 < l.length + (vput v).length) := by have := vput_length64 hx; omega
  have hidx : (l.length : Int) < (l.length : Int) + 1 := by omega
  simp only [Act.put, List.setIfInBounds_toArray, List.set_cons_zero, List.set_cons_succ]
  (refine mv_val 6 (v := ?_) rfl (by kernel_rfl) (by kernel_rfl) (by kernel_rfl) (fun _ _ _ h => h) (by rfl) hS ?_ ?_; rotate_left; (focus (intro w hSw; (try dsimp only at hSw); (have f1 := F1 w hSw.1; have f2 := F2 w hSw.1; have f3 := F3 w hSw.1; have f4 := F4 w hSw.2; have h0 := hcat; have h1 := hnl; have h2 := hidx); go_simp; first | done | with_reducible rfl)); simp only [Act.put, List.setIfInBounds_toArray, List.set_cons_zero, List.set_cons_succ])
  (refine mv_val 7 (v := ?_) rfl (by kernel_rfl) (by kernel_rfl) (by kernel_rfl) (fun _ _ _ h => h) (by rfl) hS ?_ ?_; rotate_left; (focus (intro w hSw; (try dsimp only at hSw); (have f1 := F1 w hSw.1; have f2 := F2 w hSw.1; have f3 := F3 w hSw.1; have f4 := F4 w hSw.2; have h0 := hcat; have h1 := hnl; have h2 := hidx); go_simp; first | done | with_reducible rfl)); simp only [Act.put, List.setIfInBounds_toArray, List.set_cons_zero, List.set_cons_succ])
  (refine mv_val 8 (v := ?_) rfl (by kernel_rfl) (by kernel_rfl) (by kernel_rfl) (fun _ _ _ h => h) (by rfl) hS ?_ ?_; rotate_left; (focus (intro w hSw; (try dsimp only at hSw); (have f1 := F1 w hSw.1; have f2 := F2 w hSw.1; have f3 := F3 w hSw.1; have f4 := F4 w hSw.2; have h0 := hcat; have h1 := hnl; have h2 := hidx); go_simp; first | done | with_reducible rfl)); simp only [Act.put, List.setIfInBounds_toArray, List.set_cons_zero, List.set_cons_succ])
  (refine mv_val 9 (v := ?_) rfl (by kernel_rfl) (by kernel_rfl) (by kernel_rfl) (fun _ _ _ h => h) (by rfl) hS ?_ ?_; rotate_left; (focus (intro w hSw; (try dsimp only at hSw); (have f1 := F1 w hSw.1; have f2 := F2 w hSw.1; have f3 := F3 w hSw.1; have f4 := F4 w hSw.2; have h0 := hcat; have h1 := hnl; have h2 := hidx); go_simp; first | done | with_reducible rfl)); simp only [Act.put, List.setIfInBounds_toArray, List.set_cons_zero, List.set_cons_succ])
  (refine mv_val 10 (v := ?_) rfl (by kernel_rfl) (by kernel_rfl) (by kernel_rfl) (fun _ _ _ h => h) (by rfl) hS ?_ ?_; rotate_left; (focus (intro w hSw; (try dsimp only at hSw); (have f1 := F1 w hSw.1; have f2 := F2 w hSw.1; have f3 := F3 w hSw.1; have f4 := F4 w hSw.2; have h0 := hcat; have h1 := hnl; have h2 := hidx); go_simp; first | done | with_reducible rfl)); simp only [Act.put, List.setIfInBounds_toArray, List.set_cons_zero, List.set_cons_succ])
  (refine mv_val 11 (v := ?_) rfl (by kernel_rfl) (by kernel_rfl) (by kernel_rfl) (fun _ _ _ h => h) (by rfl) hS ?_ ?_; rotate_left; (focus (intro w hSw; (try dsimp only at hSw); (have f1 := F1 w hSw.1; have f2 := F2 w hSw.1; have f3 := F3 w hSw.1; have f4 := F4 w hSw.2; have h0 := hcat; have h1 := hnl; have h2 := hidx); go_simp; first | done | with_reducible rfl)); simp only [Act.put, List.setIfInBounds_toArray, List.set_cons_zero, List.set_cons_succ])
  (refine mv_val 12 (v := ?_) rfl (by kernel_rfl) (by kernel_rfl) (by kernel_rfl) (fun _ _ _ h => h) (by rfl) hS ?_ ?_; rotate_left; (focus (intro w hSw; (try dsimp only at hSw); (have f1 := F1 w hSw.1; have f2 := F2 w hSw.1; have f3 := F3 w hSw.1; have f4 := F4 w hSw.2; have h0 := hcat; have h1 := hnl; have h2 := hidx); go_simp; first | done | with_reducible rfl)); simp only [Act.put, List.setIfInBounds_toArray, List.set_cons_zero, List.set_cons_succ])
  (refine mv_val 13 (v := ?_) rfl (by kernel_rfl) (by kernel_rfl) (by kernel_rfl) (fun _ _ _ h => h) (by rfl) hS ?_ ?_; rotate_left; (focus (intro w hSw; (try dsimp only at hSw); (have f1 := F1 w hSw.1; have f2 := F2 w hSw.1; have f3 := F3 w hSw.1; have f4 := F4 w hSw.2; have h0 := hcat; have h1 := hnl; have h2 := hidx); go_simp; first | done | with_reducible rfl)); simp only [Act.put, List.setIfInBounds_toArray, List.set_cons_zero, List.set_cons_succ])
  (refine mv_val 14 (v := ?_) rfl (by kernel_rfl) (by kernel_rfl) (by kernel_rfl) (fun _ _ _ h => h) (by rfl) hS ?_ ?_; rotate_left; (focus (intro w hSw; (try dsimp only at hSw); (have f1 := F1 w hSw.1; have f2 := F2 w hSw.1; have f3 := F3 w hSw.1; have f4 := F4 w hSw.2; have h0 := hcat; have h1 := hnl; have h2 := hidx); go_simp; first | done | with_reducible rfl)); simp only [Act.put, List.setIfInBounds_toArray, List.set_cons_zero, List.set_cons_succ])
  (refine mv_val 15 (v := ?_) rfl (by kernel_rfl) (by kernel_rfl) (by kernel_rfl) (fun _ _ _ h => h) (by rfl) hS ?_ ?_; rotate_left; (focus (intro w hSw; (try dsimp only at hSw); (have f1 := F1 w hSw.1; have f2 := F2 w hSw.1; have f3 := F3 w hSw.1; have f4 := F4 w hSw.2; have h0 := hcat; have h1 := hnl; have h2 := hidx); go_simp; first | done | with_reducible rfl)); simp only [Act.put, List.setIfInBounds_toArray, List.set_cons_zero, List.set_cons_succ])
  (refine mv_val 16 (v := ?_) rfl (by kernel_rfl) (by kernel_rfl) (by kernel_rfl) (fun _ _ _ h => h) (by rfl) hS ?_ ?_; rotate_left; (focus (intro w hSw; (try dsimp only at hSw); (have f1 := F1 w hSw.1; have f2 := F2 w hSw.1; have f3 := F3 w hSw.1; have f4 := F4 w hSw.2; have h0 := hcat; have h1 := hnl; have h2 := hidx); go_simp; first | done | with_reducible rfl)); simp only [Act.put, List.setIfInBounds_toArray, List.set_cons_zero, List.set_cons_succ])
  (refine mv_val 17 (v := ?_) rfl (by kernel_rfl) (by kernel_rfl) (by kernel_rfl) (fun _ _ _ h => h) (by rfl) hS ?_ ?_; rotate_left; (focus (intro w hSw; (try dsimp only at hSw); (have f1 := F1 w hSw.1; have f2 := F2 w hSw.1; have f3 := F3 w hSw.1; have f4 := F4 w hSw.2; have h0 := hcat; have h1 := hnl; have h2 := hidx); go_simp; first | done | with_reducible rfl)); simp only [Act.put, List.setIfInBounds_toArray, List.set_cons_zero, List.set_cons_succ])
  (refine mv_call 18 (f := ?_) (args := ?_) rfl (by kernel_rfl) (by rfl) ?_ ?_; rotate_left 2; (focus (go_simp; first | done | with_reducible rfl | (refine ⟨?_, ?_⟩ <;> with_reducible rfl))))
  refine (puts_any _).mono ?_; rintro e w5 ⟨rfl, hb5⟩
  refine ⟨_, rfl, ⟨hS.1.trans (hb5.mono hS4.size), hb5⟩, ?_⟩
  replace hS : Below w3.heap.size w3 w5 ∧ Below w4.heap.size w4 w5 := ⟨hS.1.trans (hb5.mono hS4.size), hb5⟩
  simp only [Act.put, List.setIfInBounds_toArray, List.set_cons_zero, List.set_cons_succ]
  (refine mv_val 19 (v := ?_) rfl (by kernel_rfl) (by kernel_rfl) (by kernel_rfl) (fun _ _ _ h => h) (by rfl) hS ?_ ?_; rotate_left; (focus (intro w hSw; (try dsimp only at hSw); (have f1 := F1 w hSw.1; have f2 := F2 w hSw.1; have f3 := F3 w hSw.1; have f4 := F4 w hSw.2; have h0 := hcat; have h1 := hnl; have h2 := hidx); go_simp; first | done | with_reducible rfl)); simp only [Act.put, List.setIfInBounds_toArray, List.set_cons_zero, List.set_cons_succ])
  (refine mv_val 20 (v := ?_) rfl (by kernel_rfl) (by kernel_rfl) (by kernel_rfl) (fun _ _ _ h => h) (by rfl) hS ?_ ?_; rotate_left; (focus (intro w hSw; (try dsimp only at hSw); (have f1 := F1 w hSw.1; have f2 := F2 w hSw.1; have f3 := F3 w hSw.1; have f4 := F4 w hSw.2; have h0 := hcat; have h1 := hnl; have h2 := hidx); go_simp; first | done | with_reducible rfl)); simp only [Act.put, List.setIfInBounds_toArray, List.set_cons_zero, List.set_cons_succ])
  refine wpAnyH_done (by kernel_rfl) ?_ _
  go_wp2_with fail
  go_ret
  exact ⟨rfl, hb3'.trans (hS.1.mono (by omega))⟩
end Go.Proofs.Ytlmbajlgdcpgkaa

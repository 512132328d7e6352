/- The law KeyParses (layer 3), walked: true for every input. No condition. -/
import Derived.Test.YtdbhbfpfcdklmaaKeyR4
import Derived.Test.YtdbhbfpfcdklmaaKeyL4
namespace Go.Proofs.Ytdbhbfpfcdklmaa
open Go.RowKit
set_option linter.unusedVariables false
set_option linter.unusedSimpArgs false

set_option maxHeartbeats 4000000 in
set_option maxRecDepth 100000 in
theorem keyParses_walk (A : Option Addr) (c : Nat) (b : List UInt8) (W : World) (hb : Rd W W.heap.size A (cells b)) (hbc : b.length ≤ c ∧ c ≤ maxLen) :
    Calls Try.prog 7 #[.slice A b.length c] W fun e w' => e = .returned (.bool true) ∧ Below W.heap.size W w' := by
  by_cases hbl : 1000 < b.length
  · have hI : (1000 : Int) < (b.length : Int) := by omega
    go_enter Try.func7, Try.ntmps7
    go_wp2_with fail
    go_ret
    exact ⟨rfl, Below.refl _ _⟩
  have hI : (b.length : Int) ≤ 1000 := by omega
  have P1 := fun (Ax : Option Addr) (cx : Nat) (w : World) h hx => Parse_any w.heap.size Ax cx b w h hx (Nat.le_refl _) (by omega)
  have P2 := fun w h hB => RParse_any W.heap.size A c b w h hbc.1 hB (by omega)
  obtain ⟨kb, hkb⟩ : ∃ x, x = kparse b := ⟨_, rfl⟩
  rw [← hkb] at P1 P2
  obtain ⟨ms, eb⟩ := kb
  have hml : ms.length ≤ 1000 := by
    rcases kparse_inv hkb.symm with ⟨_, hF, _⟩ | ⟨h, _⟩
    · have h1 := kp_len ms
      rw [← hF] at h1
      omega
    · rw [h]; simp
  have AF := fun (Ax : Option Addr) (cx : Nat) (w : World) h => After_any w.heap.size Ax cx b w h (Nat.le_refl _) (by omega)
  have hbapp := bytes_app b [255]
  obtain ⟨z, hz⟩ : ∃ z, z = b ++ [255] := ⟨_, rfl⟩
  rw [← hz] at AF hbapp
  have G1 := Lib.hid P1
  have G2 := Lib.hid P2
  have GF := Lib.hid AF
  have HBA := Lib.hid hbapp
  clear P1 P2 AF hbapp hz hkb
  go_enter Try.func7, Try.ntmps7
  go_wp2_with (first
    | (at_builtin; refine wpList_app El_u8 rfl _ _ rfl (hown2.alloc _) rfl rfl (by exact rd_one _ _ _ _ _ rfl (Nat.lt_add_one _)) rfl one_int (by unfold maxLen; omega) (by omega) (by have := hb2.size; simp; omega) ?_; intro v3 w3 hown3 hg3 _; have hb3 : Below W.heap.size W w3 := (hb2.alloc hb2.size _).trans (own_below (hown2.alloc _) hg3 (by have := hb2.size; simp; omega)); obtain ⟨A3, c3, rfl, hc3⟩ := own_form hown3; have hc3I : (b.length : Int) ≤ (c3 : Int) := by omega)
    | (at_builtin; refine wpList_app El_u8 rfl _ _ rfl (lit0_u8 W) rfl rfl (hb.alloc (Nat.le_refl _) _) (by simp) (cells_one b) (by unfold maxLen; omega) (by omega) (by simp) ?_; intro v2 w2 hown2 hg2 _; have hb2 : Below W.heap.size W w2 := ((Below.refl _ _).alloc (Nat.le_refl _) _).trans (own_below (lit0_u8 W) hg2 (by simp)); rw [Nat.zero_add, List.nil_append] at hown2))
  have hrd3 : ∀ w', Below w3.heap.size w3 w' → Rd w' w'.heap.size A3 (cells b) := fun w' h => by
    have h := (rd_own (own_bel hown3 h)).take b.length
    rwa [List.take_left' (by simp)] at h
  refine (G1.out A3 c3 w3 (hrd3 w3 (Below.refl _ _)) (by omega)).mono ?_; rintro e w4 ⟨A4, c4, rfl, hown4, hb4⟩
  dsimp only at hown4 ⊢
  have hb04 : Below W.heap.size W w4 := hb3.trans (hb4.mono hb3.size)
  go_wp2_with fail
  refine (G2.out w4 (hb.below hb04) hb04.size).mono ?_; rintro e w5 ⟨A5, c5, rfl, hown5, hb5⟩
  dsimp only at hown5 ⊢
  have hb35 : Below w3.heap.size w3 w5 := hb4.trans (hb5.mono hb4.size)
  have hb05 : Below W.heap.size W w5 := hb04.trans (hb5.mono hb04.size)
  have hown4b := own_bel hown4 hb5
  have hcell : ∀ w', Below w3.heap.size w3 w' → ∃ bb oo, A3 = some ⟨bb, oo, none⟩ ∧ w'.cell? ⟨bb, oo + b.length, none⟩ = some (.int .u8 7) := fun w' h => by
    obtain ⟨b3, o3, h1, _, hcc⟩ := (rd_own (own_bel hown3 h)).at (k := b.length) (by simp)
    exact ⟨b3, o3, h1, hcc b.length _ (by simp)⟩
  obtain ⟨b3, o3, rfl, _⟩ := hcell w3 (Below.refl _ _)
  have hc7 : ∀ w', Below w5.heap.size w5 w' → w'.cell? ⟨b3, o3 + b.length, none⟩ = some (.int .u8 7) := fun w' h => by
    obtain ⟨x, y, hxy, hcc⟩ := hcell w' (hb35.trans (h.mono hb35.size))
    cases hxy
    exact hcc
  have CV1 : ∀ w', Below w5.heap.size w5 w' → (convert 22 9 (.slice A b.length c)).run Try.prog w' = .ok (.string ⟨b.toArray⟩) w' := fun w' h => conv_rd (hb.below (hb05.trans (h.mono hb05.size))) c
  have HSM := Lib.hid (fun w' (h : Below w5.heap.size w5 w') => Same_any w'.heap.size A4 A5 c4 c5 ms ms w' (rd_own (own_bel hown4b h)) (rd_own (own_bel hown5 h)) (Nat.le_refl _) (by unfold maxLen; omega))
  have hsum : ¬ 9223372036854775807 < b.length + 1 := by omega
  have hlt1 : (b.length : Int) < (b.length : Int) + 1 := by omega
  have hcn : b.length ≤ c3 := by omega
  go_wp2_with fail
  refine ah_start 32 (fun w' => Below w5.heap.size w5 w') rfl (by kernel_rfl) (Below.refl _ _).drew ?_ ; intro hS
  (refine mv_val 0 (v := ?_) rfl (by kernel_rfl) (by kernel_rfl) (by kernel_rfl) (fun _ _ _ h => h) (by rfl) hS ?_ ?_; rotate_left; (focus (intro w hSw; (try dsimp only at hSw); (have f1 := CV1 w hSw; have f2 := hc7 w hSw; have f3 := HBA.out; have f4 := hsum; have f5 := hlt1; have f6 := hcn); go_simp; first | done | with_reducible rfl)); simp only [Act.put, List.setIfInBounds_toArray, List.set_cons_zero, List.set_cons_succ])
  (refine mv_val 1 (v := ?_) rfl (by kernel_rfl) (by kernel_rfl) (by kernel_rfl) (fun _ _ _ h => h) (by rfl) hS ?_ ?_; rotate_left; (focus (intro w hSw; (try dsimp only at hSw); (have f1 := CV1 w hSw; have f2 := hc7 w hSw; have f3 := HBA.out; have f4 := hsum; have f5 := hlt1; have f6 := hcn); go_simp; first | done | with_reducible rfl)); simp only [Act.put, List.setIfInBounds_toArray, List.set_cons_zero, List.set_cons_succ])
  (refine mv_call 2 (f := ?_) (args := ?_) rfl (by kernel_rfl) (by rfl) ?_ ?_; rotate_left 2; (focus (go_simp; first | done | with_reducible rfl | (refine ⟨?_, ?_⟩ <;> with_reducible rfl))))
  refine (HSM.out _ hS).mono ?_; rintro e w6 ⟨rfl, hb6⟩
  have hS6 : Below w5.heap.size w5 w6 := hS.trans (hb6.mono hS.size)
  refine ⟨.bool true, by simp, hS6, ?_⟩
  replace hS := hS6
  simp only [Act.put, List.setIfInBounds_toArray, List.set_cons_zero, List.set_cons_succ]
  (refine mv_val 3 (v := ?_) rfl (by kernel_rfl) (by kernel_rfl) (by kernel_rfl) (fun _ _ _ h => h) (by rfl) hS ?_ ?_; rotate_left; (focus (intro w hSw; (try dsimp only at hSw); (have f1 := CV1 w hSw; have f2 := hc7 w hSw; have f3 := HBA.out; have f4 := hsum; have f5 := hlt1; have f6 := hcn); go_simp; first | done | with_reducible rfl)); simp only [Act.put, List.setIfInBounds_toArray, List.set_cons_zero, List.set_cons_succ])
  (refine mv_val 4 (v := ?_) rfl (by kernel_rfl) (by kernel_rfl) (by kernel_rfl) (fun _ _ _ h => h) (by rfl) hS ?_ ?_; rotate_left; (focus (intro w hSw; (try dsimp only at hSw); (have f1 := CV1 w hSw; have f2 := hc7 w hSw; have f3 := HBA.out; have f4 := hsum; have f5 := hlt1; have f6 := hcn); go_simp; first | done | with_reducible rfl)); simp only [Act.put, List.setIfInBounds_toArray, List.set_cons_zero, List.set_cons_succ])
  (refine mv_val 5 (v := ?_) rfl (by kernel_rfl) (by kernel_rfl) (by kernel_rfl) (fun _ _ _ h => h) (by rfl) hS ?_ ?_; rotate_left; (focus (intro w hSw; (try dsimp only at hSw); (have f1 := CV1 w hSw; have f2 := hc7 w hSw; have f3 := HBA.out; have f4 := hsum; have f5 := hlt1; have f6 := hcn); go_simp; first | done | with_reducible rfl)); simp only [Act.put, List.setIfInBounds_toArray, List.set_cons_zero, List.set_cons_succ])
  (refine mv_val 6 (v := ?_) rfl (by kernel_rfl) (by kernel_rfl) (by kernel_rfl) (fun _ _ _ h => h) (by rfl) hS ?_ ?_; rotate_left; (focus (intro w hSw; (try dsimp only at hSw); (have f1 := CV1 w hSw; have f2 := hc7 w hSw; have f3 := HBA.out; have f4 := hsum; have f5 := hlt1; have f6 := hcn); go_simp; first | done | with_reducible rfl)); simp only [Act.put, List.setIfInBounds_toArray, List.set_cons_zero, List.set_cons_succ])
  (refine mv_val 7 (v := ?_) rfl (by kernel_rfl) (by kernel_rfl) (by kernel_rfl) (fun _ _ _ h => h) (by rfl) hS ?_ ?_; rotate_left; (focus (intro w hSw; (try dsimp only at hSw); (have f1 := CV1 w hSw; have f2 := hc7 w hSw; have f3 := HBA.out; have f4 := hsum; have f5 := hlt1; have f6 := hcn); go_simp; first | done | with_reducible rfl)); simp only [Act.put, List.setIfInBounds_toArray, List.set_cons_zero, List.set_cons_succ])
  (refine mv_val 8 (v := ?_) rfl (by kernel_rfl) (by kernel_rfl) (by kernel_rfl) (fun _ _ _ h => h) (by rfl) hS ?_ ?_; rotate_left; (focus (intro w hSw; (try dsimp only at hSw); (have f1 := CV1 w hSw; have f2 := hc7 w hSw; have f3 := HBA.out; have f4 := hsum; have f5 := hlt1; have f6 := hcn); go_simp; first | done | with_reducible rfl)); simp only [Act.put, List.setIfInBounds_toArray, List.set_cons_zero, List.set_cons_succ])
  (refine mv_val 9 (v := ?_) rfl (by kernel_rfl) (by kernel_rfl) (by kernel_rfl) (fun _ _ _ h => h) (by rfl) hS ?_ ?_; rotate_left; (focus (intro w hSw; (try dsimp only at hSw); (have f1 := CV1 w hSw; have f2 := hc7 w hSw; have f3 := HBA.out; have f4 := hsum; have f5 := hlt1; have f6 := hcn); go_simp; first | done | with_reducible rfl)); simp only [Act.put, List.setIfInBounds_toArray, List.set_cons_zero, List.set_cons_succ])
  (refine mv_val 10 (v := ?_) rfl (by kernel_rfl) (by kernel_rfl) (by kernel_rfl) (fun _ _ _ h => h) (by rfl) hS ?_ ?_; rotate_left; (focus (intro w hSw; (try dsimp only at hSw); (have f1 := CV1 w hSw; have f2 := hc7 w hSw; have f3 := HBA.out; have f4 := hsum; have f5 := hlt1; have f6 := hcn); go_simp; first | done | with_reducible rfl)); simp only [Act.put, List.setIfInBounds_toArray, List.set_cons_zero, List.set_cons_succ])
  (refine mv_val 11 (v := ?_) rfl (by kernel_rfl) (by kernel_rfl) (by kernel_rfl) (fun _ _ _ h => h) (by rfl) hS ?_ ?_; rotate_left; (focus (intro w hSw; (try dsimp only at hSw); (have f1 := CV1 w hSw; have f2 := hc7 w hSw; have f3 := HBA.out; have f4 := hsum; have f5 := hlt1; have f6 := hcn); go_simp; first | done | with_reducible rfl)); simp only [Act.put, List.setIfInBounds_toArray, List.set_cons_zero, List.set_cons_succ])
  (refine mv_val 12 (v := ?_) rfl (by kernel_rfl) (by kernel_rfl) (by kernel_rfl) (fun _ _ _ h => h) (by rfl) hS ?_ ?_; rotate_left; (focus (intro w hSw; (try dsimp only at hSw); (have f1 := CV1 w hSw; have f2 := hc7 w hSw; have f3 := HBA.out; have f4 := hsum; have f5 := hlt1; have f6 := hcn); go_simp; first | done | with_reducible rfl)); simp only [Act.put, List.setIfInBounds_toArray, List.set_cons_zero, List.set_cons_succ])
  (refine mv_val 15 (v := ?_) rfl (by kernel_rfl) (by kernel_rfl) (by kernel_rfl) (fun _ _ _ h => h) (by rfl) hS ?_ ?_; rotate_left; (focus (intro w hSw; (try dsimp only at hSw); (have f1 := CV1 w hSw; have f2 := hc7 w hSw; have f3 := HBA.out; have f4 := hsum; have f5 := hlt1; have f6 := hcn); go_simp; first | done | with_reducible rfl)); simp only [Act.put, List.setIfInBounds_toArray, List.set_cons_zero, List.set_cons_succ])
  (refine mv_val 16 (v := ?_) rfl (by kernel_rfl) (by kernel_rfl) (by kernel_rfl) (fun _ _ _ h => h) (by rfl) hS ?_ ?_; rotate_left; (focus (intro w hSw; (try dsimp only at hSw); (have f1 := CV1 w hSw; have f2 := hc7 w hSw; have f3 := HBA.out; have f4 := hsum; have f5 := hlt1; have f6 := hcn); go_simp; first | done | with_reducible rfl)); simp only [Act.put, List.setIfInBounds_toArray, List.set_cons_zero, List.set_cons_succ])
  (refine mv_val 17 (v := ?_) rfl (by kernel_rfl) (by kernel_rfl) (by kernel_rfl) (fun _ _ _ h => h) (by rfl) hS ?_ ?_; rotate_left; (focus (intro w hSw; (try dsimp only at hSw); (have f1 := CV1 w hSw; have f2 := hc7 w hSw; have f3 := HBA.out; have f4 := hsum; have f5 := hlt1; have f6 := hcn); go_simp; first | done | with_reducible rfl)); simp only [Act.put, List.setIfInBounds_toArray, List.set_cons_zero, List.set_cons_succ])
  (refine mv_call 13 (f := ?_) (args := ?_) rfl (by kernel_rfl) (by rfl) ?_ ?_; rotate_left 2; (focus (go_simp; first | done | with_reducible rfl | (refine ⟨?_, ?_⟩ <;> with_reducible rfl))))
  refine (GF.out (some ⟨b3, o3, none⟩) c3 _ (hrd3 _ (hb35.trans (hS.mono hb35.size)))).mono ?_; rintro e w12 ⟨A12, c12, rfl, hown12, hb12⟩
  have hS12 : Below w5.heap.size w5 w12 := hS.trans (hb12.mono hS.size)
  refine ⟨_, rfl, hS12, ?_⟩
  refine ah_mono (S' := fun w' => Below w5.heap.size w5 w' ∧ Below w12.heap.size w12 w') (fun w h => h.1) _ _ _ _ ?_
  replace hS : Below w5.heap.size w5 w12 ∧ Below w12.heap.size w12 w12 := ⟨hS12, Below.refl _ _⟩
  have CV5 : ∀ w', Below w12.heap.size w12 w' → (convert 22 9 (.slice A12 z.length c12)).run Try.prog w' = .ok (.string ⟨z.toArray⟩) w' := fun w' h => conv_own (own_bel hown12 h)
  simp only [Act.put, List.setIfInBounds_toArray, List.set_cons_zero, List.set_cons_succ]
  (refine mv_val 14 (v := ?_) rfl (by kernel_rfl) (by kernel_rfl) (by kernel_rfl) (fun _ _ _ h => h) (by rfl) hS ?_ ?_; rotate_left; (focus (intro w hSw; (try dsimp only at hSw); (have f1 := CV1 w hSw.1; have f2 := hc7 w hSw.1; have f3 := HBA.out; have f4 := hsum; have f5 := hlt1; have f6 := hcn; have f7 := CV5 w hSw.2); go_simp; first | done | with_reducible rfl)); simp only [Act.put, List.setIfInBounds_toArray, List.set_cons_zero, List.set_cons_succ])
  (refine mv_val 18 (v := ?_) rfl (by kernel_rfl) (by kernel_rfl) (by kernel_rfl) (fun _ _ _ h => h) (by rfl) hS ?_ ?_; rotate_left; (focus (intro w hSw; (try dsimp only at hSw); (have f1 := CV1 w hSw.1; have f2 := hc7 w hSw.1; have f3 := HBA.out; have f4 := hsum; have f5 := hlt1; have f6 := hcn; have f7 := CV5 w hSw.2); go_simp; first | done | with_reducible rfl)); simp only [Act.put, List.setIfInBounds_toArray, List.set_cons_zero, List.set_cons_succ])
  (refine mv_val 19 (v := ?_) rfl (by kernel_rfl) (by kernel_rfl) (by kernel_rfl) (fun _ _ _ h => h) (by rfl) hS ?_ ?_; rotate_left; (focus (intro w hSw; (try dsimp only at hSw); (have f1 := CV1 w hSw.1; have f2 := hc7 w hSw.1; have f3 := HBA.out; have f4 := hsum; have f5 := hlt1; have f6 := hcn; have f7 := CV5 w hSw.2); go_simp; first | done | with_reducible rfl)); simp only [Act.put, List.setIfInBounds_toArray, List.set_cons_zero, List.set_cons_succ])
  (refine mv_val 20 (v := ?_) rfl (by kernel_rfl) (by kernel_rfl) (by kernel_rfl) (fun _ _ _ h => h) (by rfl) hS ?_ ?_; rotate_left; (focus (intro w hSw; (try dsimp only at hSw); (have f1 := CV1 w hSw.1; have f2 := hc7 w hSw.1; have f3 := HBA.out; have f4 := hsum; have f5 := hlt1; have f6 := hcn; have f7 := CV5 w hSw.2); go_simp; first | done | with_reducible rfl)); simp only [Act.put, List.setIfInBounds_toArray, List.set_cons_zero, List.set_cons_succ])
  (refine mv_val 21 (v := ?_) rfl (by kernel_rfl) (by kernel_rfl) (by kernel_rfl) (fun _ _ _ h => h) (by rfl) hS ?_ ?_; rotate_left; (focus (intro w hSw; (try dsimp only at hSw); (have f1 := CV1 w hSw.1; have f2 := hc7 w hSw.1; have f3 := HBA.out; have f4 := hsum; have f5 := hlt1; have f6 := hcn; have f7 := CV5 w hSw.2); go_simp; first | done | with_reducible rfl)); simp only [Act.put, List.setIfInBounds_toArray, List.set_cons_zero, List.set_cons_succ])
  (refine mv_val 22 (v := ?_) rfl (by kernel_rfl) (by kernel_rfl) (by kernel_rfl) (fun _ _ _ h => h) (by rfl) hS ?_ ?_; rotate_left; (focus (intro w hSw; (try dsimp only at hSw); (have f1 := CV1 w hSw.1; have f2 := hc7 w hSw.1; have f3 := HBA.out; have f4 := hsum; have f5 := hlt1; have f6 := hcn; have f7 := CV5 w hSw.2); go_simp; first | done | with_reducible rfl)); simp only [Act.put, List.setIfInBounds_toArray, List.set_cons_zero, List.set_cons_succ])
  (refine mv_val 23 (v := ?_) rfl (by kernel_rfl) (by kernel_rfl) (by kernel_rfl) (fun _ _ _ h => h) (by rfl) hS ?_ ?_; rotate_left; (focus (intro w hSw; (try dsimp only at hSw); (have f1 := CV1 w hSw.1; have f2 := hc7 w hSw.1; have f3 := HBA.out; have f4 := hsum; have f5 := hlt1; have f6 := hcn; have f7 := CV5 w hSw.2); go_simp; first | done | with_reducible rfl)); simp only [Act.put, List.setIfInBounds_toArray, List.set_cons_zero, List.set_cons_succ])
  (refine mv_val 24 (v := ?_) rfl (by kernel_rfl) (by kernel_rfl) (by kernel_rfl) (fun _ _ _ h => h) (by rfl) hS ?_ ?_; rotate_left; (focus (intro w hSw; (try dsimp only at hSw); (have f1 := CV1 w hSw.1; have f2 := hc7 w hSw.1; have f3 := HBA.out; have f4 := hsum; have f5 := hlt1; have f6 := hcn; have f7 := CV5 w hSw.2); go_simp; first | done | with_reducible rfl)); simp only [Act.put, List.setIfInBounds_toArray, List.set_cons_zero, List.set_cons_succ])
  (refine mv_val 25 (v := ?_) rfl (by kernel_rfl) (by kernel_rfl) (by kernel_rfl) (fun _ _ _ h => h) (by rfl) hS ?_ ?_; rotate_left; (focus (intro w hSw; (try dsimp only at hSw); (have f1 := CV1 w hSw.1; have f2 := hc7 w hSw.1; have f3 := HBA.out; have f4 := hsum; have f5 := hlt1; have f6 := hcn; have f7 := CV5 w hSw.2); go_simp; first | done | with_reducible rfl)); simp only [Act.put, List.setIfInBounds_toArray, List.set_cons_zero, List.set_cons_succ])
  (refine mv_val 26 (v := ?_) rfl (by kernel_rfl) (by kernel_rfl) (by kernel_rfl) (fun _ _ _ h => h) (by rfl) hS ?_ ?_; rotate_left; (focus (intro w hSw; (try dsimp only at hSw); (have f1 := CV1 w hSw.1; have f2 := hc7 w hSw.1; have f3 := HBA.out; have f4 := hsum; have f5 := hlt1; have f6 := hcn; have f7 := CV5 w hSw.2); go_simp; first | done | with_reducible rfl)); simp only [Act.put, List.setIfInBounds_toArray, List.set_cons_zero, List.set_cons_succ])
  (refine mv_val 27 (v := ?_) rfl (by kernel_rfl) (by kernel_rfl) (by kernel_rfl) (fun _ _ _ h => h) (by rfl) hS ?_ ?_; rotate_left; (focus (intro w hSw; (try dsimp only at hSw); (have f1 := CV1 w hSw.1; have f2 := hc7 w hSw.1; have f3 := HBA.out; have f4 := hsum; have f5 := hlt1; have f6 := hcn; have f7 := CV5 w hSw.2); go_simp; first | done | with_reducible rfl)); simp only [Act.put, List.setIfInBounds_toArray, List.set_cons_zero, List.set_cons_succ])
  (refine mv_val 28 (v := ?_) rfl (by kernel_rfl) (by kernel_rfl) (by kernel_rfl) (fun _ _ _ h => h) (by rfl) hS ?_ ?_; rotate_left; (focus (intro w hSw; (try dsimp only at hSw); (have f1 := CV1 w hSw.1; have f2 := hc7 w hSw.1; have f3 := HBA.out; have f4 := hsum; have f5 := hlt1; have f6 := hcn; have f7 := CV5 w hSw.2); go_simp; first | done | with_reducible rfl)); simp only [Act.put, List.setIfInBounds_toArray, List.set_cons_zero, List.set_cons_succ])
  (refine mv_call 29 (f := ?_) (args := ?_) rfl (by kernel_rfl) (by rfl) ?_ ?_; rotate_left 2; (focus (go_simp; first | done | with_reducible rfl | (refine ⟨?_, ?_⟩ <;> with_reducible rfl))))
  refine (keys_any _).mono ?_; rintro e w13 ⟨rfl, hb13⟩
  have hS13 : Below w5.heap.size w5 w13 ∧ Below w12.heap.size w12 w13 := ⟨hS.1.trans (hb13.mono hS.1.size), hS.2.trans (hb13.mono hS.2.size)⟩
  refine ⟨_, rfl, hS13, ?_⟩
  replace hS := hS13
  simp only [Act.put, List.setIfInBounds_toArray, List.set_cons_zero, List.set_cons_succ]
  (refine mv_val 30 (v := ?_) rfl (by kernel_rfl) (by kernel_rfl) (by kernel_rfl) (fun _ _ _ h => h) (by rfl) hS ?_ ?_; rotate_left; (focus (intro w hSw; (try dsimp only at hSw); (have f1 := CV1 w hSw.1; have f2 := hc7 w hSw.1; have f3 := HBA.out; have f4 := hsum; have f5 := hlt1; have f6 := hcn; have f7 := CV5 w hSw.2); go_simp; first | done | with_reducible rfl)); simp only [Act.put, List.setIfInBounds_toArray, List.set_cons_zero, List.set_cons_succ])
  (refine mv_val 31 (v := ?_) rfl (by kernel_rfl) (by kernel_rfl) (by kernel_rfl) (fun _ _ _ h => h) (by rfl) hS ?_ ?_; rotate_left; (focus (intro w hSw; (try dsimp only at hSw); (have f1 := CV1 w hSw.1; have f2 := hc7 w hSw.1; have f3 := HBA.out; have f4 := hsum; have f5 := hlt1; have f6 := hcn; have f7 := CV5 w hSw.2); go_simp; first | done | with_reducible rfl)); simp only [Act.put, List.setIfInBounds_toArray, List.set_cons_zero, List.set_cons_succ])
  refine wpAnyH_done (by kernel_rfl) ?_ _
  go_wp2_with fail
  go_ret
  exact ⟨rfl, hb05.trans (hS.1.mono hb05.size)⟩
end Go.Proofs.Ytdbhbfpfcdklmaa

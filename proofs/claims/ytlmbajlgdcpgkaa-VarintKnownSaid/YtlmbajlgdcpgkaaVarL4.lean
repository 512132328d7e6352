/- The walk of VarintBack. -/
import Derived.Test.YtlmbajlgdcpgkaaVarL2
namespace Go.Proofs.Ytlmbajlgdcpgkaa
open Go.RowKit
set_option linter.unusedVariables false
set_option linter.unusedSimpArgs false

theorem putNil (x : Nat) (hx : x < 18446744073709551616) (w : World) : Calls Try.prog 42 #[.slice none 0 0, .int .u64 x] w (RetB w (vput x)) :=
  Put_any 0 none 0 [] x hx w (.inl rfl) (by decide)

set_option maxHeartbeats 2000000 in
set_option maxRecDepth 100000 in
theorem varintBack_walk (x : Int) (A : Option Addr) (c : Nat) (l : List UInt8) (W : World) (hx0 : 0 ≤ x ∧ x < 18446744073709551616) (rd : Rd W W.heap.size A (cells l)) (hl : l.length ≤ c ∧ c ≤ maxLen) :
    Calls Try.prog 6 #[.int .u64 x, .slice A l.length c] W fun e w' => e = .returned (.bool true) ∧ Below W.heap.size W w' := by
  obtain ⟨v, rfl⟩ := Int.eq_ofNat_of_zero_le hx0.1
  have hx : v < 18446744073709551616 := by omega
  obtain ⟨hl1, hl2⟩ := hl
  by_cases h1000 : l.length ≤ 1000
  case neg =>
    go_enter Try.func6, Try.ntmps6
    go_wp2
    go_ret
    exact ⟨rfl, Below.refl _ _⟩
  have hlen := vput_length64 hx
  have hpos := vput_pos v
  go_enter Try.func6, Try.ntmps6
  go_wp2_with fail
  refine (putNil v hx _).mono ?_; rintro e w1 ⟨A1, c1, rfl, hown1, hb1⟩
  have hz1 := hb1.size
  have hrd1 := rd_own hown1
  have hmade := World.ownsRow_made (base := w1.heap.size) (e := 5) (size := 1) w1 #[] 0 (Nat.le_refl _) (by decide) rfl
  go_wp2_with (first
    | (at_builtin; refine wpList_app El_u8 rfl _ _ rfl hmade rfl rfl (hrd1.alloc (Nat.le_refl _) _) (by simp) (cells_one (vput v)) (by unfold maxLen; omega) (by omega) (by simp) ?_; intro v2 w2 hown2 hg2 _
       have hb2 : Below w1.heap.size w1 w2 := ((Below.refl _ _).alloc (Nat.le_refl _) _).trans (own_below hmade hg2 (by simp))
       have hz2 := hb2.size
       rw [Nat.zero_add, List.nil_append] at hown2)
    | (at_builtin; refine wpList_app El_u8 rfl _ _ rfl hown2 rfl rfl ((rd.below hb1).below (hb2.mono hz1)) (by simp) (cells_one l) (by unfold maxLen; omega) (by omega) (by omega) ?_; intro v3 w3 hown3 hg3 _
       have hb3 : Below w1.heap.size w1 w3 := hb2.trans (own_below hown2 hg3 (by omega))
       have hz3 := hb3.size
       obtain ⟨A3, c3, rfl, hc3⟩ := own_form hown3
       have hrd3 := rd_own hown3
       rw [← cells_append] at hrd3))
  have G1 := Get_any w3.heap.size A3 c3 (vput v ++ l) w3 hrd3 (by simp; omega)
  rw [List.length_append, vget_vput hx] at G1
  have hrdl : Rd w3 w3.heap.size A (cells l) := ((rd.below hb1).below (hb3.mono hz1)).more (by omega)
  have G2 := Get_any w3.heap.size A c l w3 hrdl (by omega)
  have hB3 : Below W.heap.size W w3 := hb1.trans (hb3.mono hz1)
  have hc1 : ((v : Int) == v) = true := by simp
  refine G1.mono ?_; rintro e w4 ⟨rfl, rfl⟩
  clear G1 hown3 hg3 hown2 hg2 hmade hown1
  rcases vget_cases l with hv | hv | hv
  case inr.inl =>
    rw [hv] at G2
    go_wp2_with fail
    refine G2.mono ?_; rintro e w5 ⟨rfl, rfl⟩
    go_wp2_with fail
    refine (puts_any _).mono ?_; rintro e w5 ⟨rfl, hb⟩
    go_wp2_with fail
    go_ret
    exact ⟨rfl, hB3.trans (hb.mono (by omega))⟩
  case inr.inr =>
    rw [hv] at G2
    go_wp2_with fail
    refine G2.mono ?_; rintro e w5 ⟨rfl, rfl⟩
    go_wp2_with fail
    refine (puts_any _).mono ?_; rintro e w5 ⟨rfl, hb⟩
    go_wp2_with fail
    go_ret
    exact ⟨rfl, hB3.trans (hb.mono (by omega))⟩
  obtain ⟨⟨u, m, z⟩, hvu⟩ : ∃ t, vget l = t := ⟨_, rfl⟩
  rw [hvu] at hv G2
  obtain rfl : z = 0 := hv
  obtain ⟨m1, m10, mlen, mput, hu⟩ := vget_ok hvu
  have hcut : Rd w3 w3.heap.size A (cells (l.take m)) := by
    have := hrdl.take m
    rwa [← List.map_take] at this
  have hmm : (l.take m).length = m := by simp; omega
  have hMP := Lib.hid mput
  have hVU := Lib.hid hvu
  clear mput hvu hrd3
  go_wp2_with fail
  refine G2.mono ?_; rintro e w5 ⟨rfl, rfl⟩
  clear G2
  go_wp2_with fail
  have hcutI : (m : Int) ≤ (c : Int) := by omega
  have hm1I : (1 : Int) ≤ (m : Int) := by omega
  have hmlI : (m : Int) ≤ (l.length : Int) := by omega
  have F2 : ∀ w', Below w3.heap.size w3 w' → (convert 22 9 (.slice A m c)).run Try.prog w' = .ok (.string ⟨(l.take m).toArray⟩) w' := fun w' hw => by
    have := conv_rd (hcut.below hw) c
    rw [hmm] at this; exact this
  obtain ⟨y, hy, hy1, hy2⟩ : ∃ y, IntKind.i64.wrap (v : Int) = y ∧ -9223372036854775808 ≤ y ∧ y ≤ 9223372036854775807 := ⟨_, rfl, by rw [IntKind.wrap_i64]; omega, by rw [IntKind.wrap_i64]; omega⟩
  have HY := Lib.hid hy
  clear hy
  refine ah_start 38 (fun w' => Below w3.heap.size w3 w') rfl (by kernel_rfl) (Below.refl _ _).drew ?_
  intro hS
  (refine mv_val 0 (v := ?_) rfl (by kernel_rfl) (by kernel_rfl) (by kernel_rfl) (fun _ _ _ h => h) (by rfl) hS ?_ ?_; rotate_left; (focus (intro w hSw; (try dsimp only at hSw); (have f2 := F2 w hSw; have f3 := hcutI; have f4 := hm1I; have f5 := hmlI); go_simp; first | done | with_reducible rfl)); simp only [Act.put, List.setIfInBounds_toArray, List.set_cons_zero, List.set_cons_succ])
  (refine mv_val 1 (v := ?_) rfl (by kernel_rfl) (by kernel_rfl) (by kernel_rfl) (fun _ _ _ h => h) (by rfl) hS ?_ ?_; rotate_left; (focus (intro w hSw; (try dsimp only at hSw); (have f2 := F2 w hSw; have f3 := hcutI; have f4 := hm1I; have f5 := hmlI); go_simp; first | done | with_reducible rfl)); simp only [Act.put, List.setIfInBounds_toArray, List.set_cons_zero, List.set_cons_succ])
  (refine mv_val 2 (v := ?_) rfl (by kernel_rfl) (by kernel_rfl) (by kernel_rfl) (fun _ _ _ h => h) (by rfl) hS ?_ ?_; rotate_left; (focus (intro w hSw; (try dsimp only at hSw); (have f2 := F2 w hSw; have f3 := hcutI; have f4 := hm1I; have f5 := hmlI); go_simp; first | done | with_reducible rfl)); simp only [Act.put, List.setIfInBounds_toArray, List.set_cons_zero, List.set_cons_succ])
  (refine mv_val 3 (v := ?_) rfl (by kernel_rfl) (by kernel_rfl) (by kernel_rfl) (fun _ _ _ h => h) (by rfl) hS ?_ ?_; rotate_left; (focus (intro w hSw; (try dsimp only at hSw); (have f2 := F2 w hSw; have f3 := hcutI; have f4 := hm1I; have f5 := hmlI); go_simp; first | done | with_reducible rfl)); simp only [Act.put, List.setIfInBounds_toArray, List.set_cons_zero, List.set_cons_succ])
  (refine mv_val 4 (v := ?_) rfl (by kernel_rfl) (by kernel_rfl) (by kernel_rfl) (fun _ _ _ h => h) (by rfl) hS ?_ ?_; rotate_left; (focus (intro w hSw; (try dsimp only at hSw); (have f2 := F2 w hSw; have f3 := hcutI; have f4 := hm1I; have f5 := hmlI); go_simp; first | done | with_reducible rfl)); simp only [Act.put, List.setIfInBounds_toArray, List.set_cons_zero, List.set_cons_succ])
  (refine mv_val 5 (v := ?_) rfl (by kernel_rfl) (by kernel_rfl) (by kernel_rfl) (fun _ _ _ h => h) (by rfl) hS ?_ ?_; rotate_left; (focus (intro w hSw; (try dsimp only at hSw); (have f2 := F2 w hSw; have f3 := hcutI; have f4 := hm1I; have f5 := hmlI); go_simp; first | done | with_reducible rfl)); simp only [Act.put, List.setIfInBounds_toArray, List.set_cons_zero, List.set_cons_succ])
  (refine mv_val 6 (v := ?_) rfl (by kernel_rfl) (by kernel_rfl) (by kernel_rfl) (fun _ _ _ h => h) (by rfl) hS ?_ ?_; rotate_left; (focus (intro w hSw; (try dsimp only at hSw); (have f2 := F2 w hSw; have f3 := hcutI; have f4 := hm1I; have f5 := hmlI); go_simp; first | done | with_reducible rfl)); simp only [Act.put, List.setIfInBounds_toArray, List.set_cons_zero, List.set_cons_succ])
  (refine mv_val 7 (v := ?_) rfl (by kernel_rfl) (by kernel_rfl) (by kernel_rfl) (fun _ _ _ h => h) (by rfl) hS ?_ ?_; rotate_left; (focus (intro w hSw; (try dsimp only at hSw); (have f2 := F2 w hSw; have f3 := hcutI; have f4 := hm1I; have f5 := hmlI); go_simp; first | done | with_reducible rfl)); simp only [Act.put, List.setIfInBounds_toArray, List.set_cons_zero, List.set_cons_succ])
  (refine mv_val 8 (v := ?_) rfl (by kernel_rfl) (by kernel_rfl) (by kernel_rfl) (fun _ _ _ h => h) (by rfl) hS ?_ ?_; rotate_left; (focus (intro w hSw; (try dsimp only at hSw); (have f2 := F2 w hSw; have f3 := hcutI; have f4 := hm1I; have f5 := hmlI); go_simp; first | done | with_reducible rfl)); simp only [Act.put, List.setIfInBounds_toArray, List.set_cons_zero, List.set_cons_succ])
  (refine mv_val 9 (v := ?_) rfl (by kernel_rfl) (by kernel_rfl) (by kernel_rfl) (fun _ _ _ h => h) (by rfl) hS ?_ ?_; rotate_left; (focus (intro w hSw; (try dsimp only at hSw); (have f2 := F2 w hSw; have f3 := hcutI; have f4 := hm1I; have f5 := hmlI); go_simp; first | done | with_reducible rfl)); simp only [Act.put, List.setIfInBounds_toArray, List.set_cons_zero, List.set_cons_succ])
  (refine mv_val 12 (v := ?_) rfl (by kernel_rfl) (by kernel_rfl) (by kernel_rfl) (fun _ _ _ h => h) (by rfl) hS ?_ ?_; rotate_left; (focus (intro w hSw; (try dsimp only at hSw); (have f2 := F2 w hSw; have f3 := hcutI; have f4 := hm1I; have f5 := hmlI); go_simp; first | done | with_reducible rfl)); simp only [Act.put, List.setIfInBounds_toArray, List.set_cons_zero, List.set_cons_succ])
  (refine mv_val 13 (v := ?_) rfl (by kernel_rfl) (by kernel_rfl) (by kernel_rfl) (fun _ _ _ h => h) (by rfl) hS ?_ ?_; rotate_left; (focus (intro w hSw; (try dsimp only at hSw); (have f2 := F2 w hSw; have f3 := hcutI; have f4 := hm1I; have f5 := hmlI); go_simp; first | done | with_reducible rfl)); simp only [Act.put, List.setIfInBounds_toArray, List.set_cons_zero, List.set_cons_succ])
  (refine mv_val 14 (v := ?_) rfl (by kernel_rfl) (by kernel_rfl) (by kernel_rfl) (fun _ _ _ h => h) (by rfl) hS ?_ ?_; rotate_left; (focus (intro w hSw; (try dsimp only at hSw); (have f2 := F2 w hSw; have f3 := hcutI; have f4 := hm1I; have f5 := hmlI); go_simp; first | done | with_reducible rfl)); simp only [Act.put, List.setIfInBounds_toArray, List.set_cons_zero, List.set_cons_succ])
  (refine mv_val 15 (v := ?_) rfl (by kernel_rfl) (by kernel_rfl) (by kernel_rfl) (fun _ _ _ h => h) (by rfl) hS ?_ ?_; rotate_left; (focus (intro w hSw; (try dsimp only at hSw); (have f2 := F2 w hSw; have f3 := hcutI; have f4 := hm1I; have f5 := hmlI); go_simp; first | done | with_reducible rfl)); simp only [Act.put, List.setIfInBounds_toArray, List.set_cons_zero, List.set_cons_succ])
  (refine mv_call 10 (f := ?_) (args := ?_) rfl (by kernel_rfl) (by rfl) ?_ ?_; rotate_left 2; (focus (go_simp; first | done | with_reducible rfl | (refine ⟨?_, ?_⟩ <;> with_reducible rfl))))
  refine (putNil u hu _).mono ?_; rintro e w6 ⟨A6, c6, rfl, hown6, hb6⟩
  have hS6 : Below w3.heap.size w3 w6 := hS.trans hb6
  have F6 : ∀ w', Below w6.heap.size w6 w' → (convert 22 9 (.slice A6 (vput u).length c6)).run Try.prog w' = .ok (.string ⟨(l.take m).toArray⟩) w' := fun w' hw => by
    have := conv_rd ((rd_own hown6).below hw) c6
    rw [hMP.out] at this ⊢; exact this
  refine ⟨_, rfl, hS6, ah_mono (S' := fun w' => Below w3.heap.size w3 w' ∧ Below w6.heap.size w6 w') (fun _ h => h.1) _ _ _ _ ?_⟩
  replace hS : Below w3.heap.size w3 w6 ∧ Below w6.heap.size w6 w6 := ⟨hS6, Below.refl _ _⟩
  simp only [Act.put, List.setIfInBounds_toArray, List.set_cons_zero, List.set_cons_succ]
  (refine mv_val 11 (v := ?_) rfl (by kernel_rfl) (by kernel_rfl) (by kernel_rfl) (fun _ _ _ h => h) (by rfl) hS ?_ ?_; rotate_left; (focus (intro w hSw; (try dsimp only at hSw); (have f2 := F2 w hSw.1; have f6 := F6 w hSw.2; have f3 := hcutI; have f4 := hm1I; have f5 := hmlI; have f7 := HY.out); go_simp; first | done | with_reducible rfl)); simp only [Act.put, List.setIfInBounds_toArray, List.set_cons_zero, List.set_cons_succ])
  (refine mv_val 16 (v := ?_) rfl (by kernel_rfl) (by kernel_rfl) (by kernel_rfl) (fun _ _ _ h => h) (by rfl) hS ?_ ?_; rotate_left; (focus (intro w hSw; (try dsimp only at hSw); (have f2 := F2 w hSw.1; have f6 := F6 w hSw.2; have f3 := hcutI; have f4 := hm1I; have f5 := hmlI; have f7 := HY.out); go_simp; first | done | with_reducible rfl)); simp only [Act.put, List.setIfInBounds_toArray, List.set_cons_zero, List.set_cons_succ])
  (refine mv_val 17 (v := ?_) rfl (by kernel_rfl) (by kernel_rfl) (by kernel_rfl) (fun _ _ _ h => h) (by rfl) hS ?_ ?_; rotate_left; (focus (intro w hSw; (try dsimp only at hSw); (have f2 := F2 w hSw.1; have f6 := F6 w hSw.2; have f3 := hcutI; have f4 := hm1I; have f5 := hmlI; have f7 := HY.out); go_simp; first | done | with_reducible rfl)); simp only [Act.put, List.setIfInBounds_toArray, List.set_cons_zero, List.set_cons_succ])
  (refine mv_val 18 (v := ?_) rfl (by kernel_rfl) (by kernel_rfl) (by kernel_rfl) (fun _ _ _ h => h) (by rfl) hS ?_ ?_; rotate_left; (focus (intro w hSw; (try dsimp only at hSw); (have f2 := F2 w hSw.1; have f6 := F6 w hSw.2; have f3 := hcutI; have f4 := hm1I; have f5 := hmlI; have f7 := HY.out); go_simp; first | done | with_reducible rfl)); simp only [Act.put, List.setIfInBounds_toArray, List.set_cons_zero, List.set_cons_succ])
  (refine mv_val 19 (v := ?_) rfl (by kernel_rfl) (by kernel_rfl) (by kernel_rfl) (fun _ _ _ h => h) (by rfl) hS ?_ ?_; rotate_left; (focus (intro w hSw; (try dsimp only at hSw); (have f2 := F2 w hSw.1; have f6 := F6 w hSw.2; have f3 := hcutI; have f4 := hm1I; have f5 := hmlI; have f7 := HY.out); go_simp; first | done | with_reducible rfl)); simp only [Act.put, List.setIfInBounds_toArray, List.set_cons_zero, List.set_cons_succ])
  (refine mv_val 22 (v := ?_) rfl (by kernel_rfl) (by kernel_rfl) (by kernel_rfl) (fun _ _ _ h => h) (by rfl) hS ?_ ?_; rotate_left; (focus (intro w hSw; (try dsimp only at hSw); (have f2 := F2 w hSw.1; have f6 := F6 w hSw.2; have f3 := hcutI; have f4 := hm1I; have f5 := hmlI; have f7 := HY.out); go_simp; first | done | with_reducible rfl)); simp only [Act.put, List.setIfInBounds_toArray, List.set_cons_zero, List.set_cons_succ])
  (refine mv_call 20 (f := ?_) (args := ?_) rfl (by kernel_rfl) (by rfl) ?_ ?_; rotate_left 2; (focus (go_simp; first | done | with_reducible rfl | (refine ⟨?_, ?_⟩ <;> with_reducible rfl))))
  refine (Zag_any v (by omega) hx0.2 _).mono ?_; rintro e w7 ⟨rfl, rfl⟩
  refine ⟨_, rfl, hS, ?_⟩
  have hzb := zag_bd (v : Int) (by omega) hx0.2
  have Z2 := Zig_any (zag v) hzb.1 hzb.2 w6
  rw [zig_zag (v : Int) (by omega)] at Z2
  simp only [Act.put, List.setIfInBounds_toArray, List.set_cons_zero, List.set_cons_succ]
  (refine mv_call 21 (f := ?_) (args := ?_) rfl (by kernel_rfl) (by rfl) ?_ ?_; rotate_left 2; (focus (go_simp; first | done | with_reducible rfl | (refine ⟨?_, ?_⟩ <;> with_reducible rfl))))
  refine Z2.mono ?_; rintro e w7 ⟨rfl, rfl⟩
  refine ⟨_, rfl, hS, ?_⟩
  simp only [Act.put, List.setIfInBounds_toArray, List.set_cons_zero, List.set_cons_succ]
  (refine mv_val 23 (v := ?_) rfl (by kernel_rfl) (by kernel_rfl) (by kernel_rfl) (fun _ _ _ h => h) (by rfl) hS ?_ ?_; rotate_left; (focus (intro w hSw; (try dsimp only at hSw); (have f2 := F2 w hSw.1; have f6 := F6 w hSw.2; have f3 := hcutI; have f4 := hm1I; have f5 := hmlI; have f7 := HY.out); go_simp; first | done | with_reducible rfl)); simp only [Act.put, List.setIfInBounds_toArray, List.set_cons_zero, List.set_cons_succ])
  (refine mv_val 24 (v := ?_) rfl (by kernel_rfl) (by kernel_rfl) (by kernel_rfl) (fun _ _ _ h => h) (by rfl) hS ?_ ?_; rotate_left; (focus (intro w hSw; (try dsimp only at hSw); (have f2 := F2 w hSw.1; have f6 := F6 w hSw.2; have f3 := hcutI; have f4 := hm1I; have f5 := hmlI; have f7 := HY.out); go_simp; first | done | with_reducible rfl)); simp only [Act.put, List.setIfInBounds_toArray, List.set_cons_zero, List.set_cons_succ])
  (refine mv_val 25 (v := ?_) rfl (by kernel_rfl) (by kernel_rfl) (by kernel_rfl) (fun _ _ _ h => h) (by rfl) hS ?_ ?_; rotate_left; (focus (intro w hSw; (try dsimp only at hSw); (have f2 := F2 w hSw.1; have f6 := F6 w hSw.2; have f3 := hcutI; have f4 := hm1I; have f5 := hmlI; have f7 := HY.out); go_simp; first | done | with_reducible rfl)); simp only [Act.put, List.setIfInBounds_toArray, List.set_cons_zero, List.set_cons_succ])
  (refine mv_val 26 (v := ?_) rfl (by kernel_rfl) (by kernel_rfl) (by kernel_rfl) (fun _ _ _ h => h) (by rfl) hS ?_ ?_; rotate_left; (focus (intro w hSw; (try dsimp only at hSw); (have f2 := F2 w hSw.1; have f6 := F6 w hSw.2; have f3 := hcutI; have f4 := hm1I; have f5 := hmlI; have f7 := HY.out); go_simp; first | done | with_reducible rfl)); simp only [Act.put, List.setIfInBounds_toArray, List.set_cons_zero, List.set_cons_succ])
  (refine mv_val 27 (v := ?_) rfl (by kernel_rfl) (by kernel_rfl) (by kernel_rfl) (fun _ _ _ h => h) (by rfl) hS ?_ ?_; rotate_left; (focus (intro w hSw; (try dsimp only at hSw); (have f2 := F2 w hSw.1; have f6 := F6 w hSw.2; have f3 := hcutI; have f4 := hm1I; have f5 := hmlI; have f7 := HY.out); go_simp; first | done | with_reducible rfl)); simp only [Act.put, List.setIfInBounds_toArray, List.set_cons_zero, List.set_cons_succ])
  (refine mv_val 30 (v := ?_) rfl (by kernel_rfl) (by kernel_rfl) (by kernel_rfl) (fun _ _ _ h => h) (by rfl) hS ?_ ?_; rotate_left; (focus (intro w hSw; (try dsimp only at hSw); (have f2 := F2 w hSw.1; have f6 := F6 w hSw.2; have f3 := hcutI; have f4 := hm1I; have f5 := hmlI; have f7 := HY.out); go_simp; first | done | with_reducible rfl)); simp only [Act.put, List.setIfInBounds_toArray, List.set_cons_zero, List.set_cons_succ])
  (refine mv_val 31 (v := ?_) rfl (by kernel_rfl) (by kernel_rfl) (by kernel_rfl) (fun _ _ _ h => h) (by rfl) hS ?_ ?_; rotate_left; (focus (intro w hSw; (try dsimp only at hSw); (have f2 := F2 w hSw.1; have f6 := F6 w hSw.2; have f3 := hcutI; have f4 := hm1I; have f5 := hmlI; have f7 := HY.out); go_simp; first | done | with_reducible rfl)); simp only [Act.put, List.setIfInBounds_toArray, List.set_cons_zero, List.set_cons_succ])
  (refine mv_call 28 (f := ?_) (args := ?_) rfl (by kernel_rfl) (by rfl) ?_ ?_; rotate_left 2; (focus (go_simp; first | done | with_reducible rfl | (refine ⟨?_, ?_⟩ <;> with_reducible rfl))))
  refine (Zig_any y hy1 hy2 _).mono ?_; rintro e w7 ⟨rfl, rfl⟩
  refine ⟨_, rfl, hS, ?_⟩
  have hyb := zig_bd y hy1 hy2
  have Z4 := Zag_any (zig y) hyb.1 hyb.2 w6
  rw [zag_zig y] at Z4
  simp only [Act.put, List.setIfInBounds_toArray, List.set_cons_zero, List.set_cons_succ]
  (refine mv_call 29 (f := ?_) (args := ?_) rfl (by kernel_rfl) (by rfl) ?_ ?_; rotate_left 2; (focus (go_simp; first | done | with_reducible rfl | (refine ⟨?_, ?_⟩ <;> with_reducible rfl))))
  refine Z4.mono ?_; rintro e w7 ⟨rfl, rfl⟩
  refine ⟨_, rfl, hS, ?_⟩
  simp only [Act.put, List.setIfInBounds_toArray, List.set_cons_zero, List.set_cons_succ]
  (refine mv_val 32 (v := ?_) rfl (by kernel_rfl) (by kernel_rfl) (by kernel_rfl) (fun _ _ _ h => h) (by rfl) hS ?_ ?_; rotate_left; (focus (intro w hSw; (try dsimp only at hSw); (have f2 := F2 w hSw.1; have f6 := F6 w hSw.2; have f3 := hcutI; have f4 := hm1I; have f5 := hmlI; have f7 := HY.out); go_simp; first | done | with_reducible rfl)); simp only [Act.put, List.setIfInBounds_toArray, List.set_cons_zero, List.set_cons_succ])
  (refine mv_val 33 (v := ?_) rfl (by kernel_rfl) (by kernel_rfl) (by kernel_rfl) (fun _ _ _ h => h) (by rfl) hS ?_ ?_; rotate_left; (focus (intro w hSw; (try dsimp only at hSw); (have f2 := F2 w hSw.1; have f6 := F6 w hSw.2; have f3 := hcutI; have f4 := hm1I; have f5 := hmlI; have f7 := HY.out); go_simp; first | done | with_reducible rfl)); simp only [Act.put, List.setIfInBounds_toArray, List.set_cons_zero, List.set_cons_succ])
  (refine mv_val 34 (v := ?_) rfl (by kernel_rfl) (by kernel_rfl) (by kernel_rfl) (fun _ _ _ h => h) (by rfl) hS ?_ ?_; rotate_left; (focus (intro w hSw; (try dsimp only at hSw); (have f2 := F2 w hSw.1; have f6 := F6 w hSw.2; have f3 := hcutI; have f4 := hm1I; have f5 := hmlI; have f7 := HY.out); go_simp; first | done | with_reducible rfl)); simp only [Act.put, List.setIfInBounds_toArray, List.set_cons_zero, List.set_cons_succ])
  (refine mv_call 35 (f := ?_) (args := ?_) rfl (by kernel_rfl) (by rfl) ?_ ?_; rotate_left 2; (focus (go_simp; first | done | with_reducible rfl | (refine ⟨?_, ?_⟩ <;> with_reducible rfl))))
  refine (puts_any _).mono ?_; rintro e w7 ⟨rfl, hb7⟩
  have hS7 : Below w3.heap.size w3 w7 ∧ Below w6.heap.size w6 w7 := ⟨hS.1.trans (hb7.mono hS6.size), hb7⟩
  refine ⟨_, rfl, hS7, ?_⟩
  replace hS := hS7
  simp only [Act.put, List.setIfInBounds_toArray, List.set_cons_zero, List.set_cons_succ]
  (refine mv_val 36 (v := ?_) rfl (by kernel_rfl) (by kernel_rfl) (by kernel_rfl) (fun _ _ _ h => h) (by rfl) hS ?_ ?_; rotate_left; (focus (intro w hSw; (try dsimp only at hSw); (have f2 := F2 w hSw.1; have f6 := F6 w hSw.2; have f3 := hcutI; have f4 := hm1I; have f5 := hmlI; have f7 := HY.out); go_simp; first | done | with_reducible rfl)); simp only [Act.put, List.setIfInBounds_toArray, List.set_cons_zero, List.set_cons_succ])
  (refine mv_val 37 (v := ?_) rfl (by kernel_rfl) (by kernel_rfl) (by kernel_rfl) (fun _ _ _ h => h) (by rfl) hS ?_ ?_; rotate_left; (focus (intro w hSw; (try dsimp only at hSw); (have f2 := F2 w hSw.1; have f6 := F6 w hSw.2; have f3 := hcutI; have f4 := hm1I; have f5 := hmlI; have f7 := HY.out); go_simp; first | done | with_reducible rfl)); simp only [Act.put, List.setIfInBounds_toArray, List.set_cons_zero, List.set_cons_succ])
  refine wpAnyH_done (by kernel_rfl) ?_ _
  go_wp2_with fail
  go_ret
  exact ⟨rfl, hB3.trans (hS.1.mono (by omega))⟩
end Go.Proofs.Ytlmbajlgdcpgkaa

/- The walk of the law IntsKnown (layer 5): it answers true. No condition. -/
import Derived.Test.YtepffjaomjpnpaaIntL1
import Derived.Test.YtepffjaomjpnpaaMove2
namespace Go.Proofs.Ytepffjaomjpnpaa
open Go.RowKit
set_option linter.unusedVariables false
set_option linter.unusedSimpArgs false

theorem chg_rep : ∀ n : Nat, chg 0 0 (List.replicate n 0) = List.replicate n 0
  | 0 => rfl
  | n + 1 => by
    have e : wrap64 (0 - 0) = 0 := by unfold wrap64; omega
    rw [List.replicate_succ]
    simp only [chg, e]
    rw [chg_rep n]
theorem iput_zeros : iput (List.replicate 65536 0) = [128, 128, 4, 0] := by
  unfold iput
  rw [chg_rep]
  have h := rl_same 65536 0 0 []
  rw [List.append_nil] at h
  rw [h]
  simp only [rl, List.flatMap_cons, List.flatMap_nil, enc1]
  rw [if_neg (by omega)]
  simp only [List.flatMap_cons, List.flatMap_nil, enc1, Nat.zero_add]
  rw [vput_big (by omega), show 65536 / 128 = 512 from rfl, vput_big (by omega), show 512 / 128 = 4 from rfl, vput_small (by omega), show (zig 0).toNat = 0 from rfl, vput_small (by omega)]
  rfl
/-- the table -/
def tbl5 : List (List UInt8 × Int × Nat) := [([1, 20, 3, 0], 5, 20), ([1, 20, 3, 0], 3, 21), ([0, 0], 1, 21), ([1, 20, 1, 0, 2, 0], 4, 21), ([], 0, 0), ([1], 0, 21), ([], 1, 20), ([1], 1, 20), ([128, 0, 0], 1, 21), ([1, 128], 1, 20), ([], -1, 1), ([], 65537, 1), ([128, 128, 4, 0], 65536, 0), ([1, 0, 1], 1, 21)]
theorem tbl5_ok : ∀ k (hk : k < 14), (iget (tbl5[k]'hk).1 (tbl5[k]'hk).2.1).2 = (tbl5[k]'hk).2.2
  | 0, _ => (by decide +kernel : (iget [1, 20, 3, 0] (5)).2 = 20)
  | 1, _ => (by decide +kernel : (iget [1, 20, 3, 0] (3)).2 = 21)
  | 2, _ => (by decide +kernel : (iget [0, 0] (1)).2 = 21)
  | 3, _ => (by decide +kernel : (iget [1, 20, 1, 0, 2, 0] (4)).2 = 21)
  | 4, _ => (by decide +kernel : (iget [] (0)).2 = 0)
  | 5, _ => (by decide +kernel : (iget [1] (0)).2 = 21)
  | 6, _ => (by decide +kernel : (iget [] (1)).2 = 20)
  | 7, _ => (by decide +kernel : (iget [1] (1)).2 = 20)
  | 8, _ => (by decide +kernel : (iget [128, 0, 0] (1)).2 = 21)
  | 9, _ => (by decide +kernel : (iget [1, 128] (1)).2 = 20)
  | 10, _ => (by decide +kernel : (iget [] (-1)).2 = 1)
  | 11, _ => (by decide +kernel : (iget [] (65537)).2 = 1)
  | 12, _ => by
    have h := (iget_iput (List.replicate 65536 0) (fun v hv => by rw [(List.mem_replicate.1 hv).2]; exact i64_zero) (by rw [List.length_replicate]; omega) 0).1
    rw [iput_zeros, List.length_replicate] at h
    exact congrArg Prod.snd h
  | 13, _ => (by decide +kernel : (iget [1, 0, 1] (1)).2 = 21)
theorem tbl5_bd : ∀ p ∈ tbl5, p.1.length ≤ 10 ∧ (-9223372036854775808 ≤ p.2.1 ∧ p.2.1 ≤ 9223372036854775807) := by decide +kernel
theorem iput_five : iput [5, 5, 5] = [1, 10, 1, 9, 1, 0] := by
  have h : rl 0 0 (chg 0 0 [5, 5, 5]) = [(1, 5), (1, -5), (1, 0)] := by decide +kernel
  unfold iput
  rw [h]
  simp only [List.flatMap_cons, List.flatMap_nil, enc1]
  rw [vput_small (by omega), show (zig 5).toNat = 10 from rfl, vput_small (by omega), show (zig (-5)).toNat = 9 from rfl, vput_small (by omega), show (zig 0).toNat = 0 from rfl, vput_small (by omega)]
  rfl
theorem iput_nil : iput [] = [] := rfl
theorem iput_least : iput [-9223372036854775808] = [1, 255, 255, 255, 255, 255, 255, 255, 255, 255, 1] := by
  have h : rl 0 0 (chg 0 0 [-9223372036854775808]) = [(1, -9223372036854775808)] := by decide +kernel
  unfold iput
  rw [h]
  simp only [List.flatMap_cons, List.flatMap_nil, enc1]
  rw [vput_small (by omega), show (zig (-9223372036854775808)).toNat = 18446744073709551615 from rfl]
  rw [vput_big (by omega), show 18446744073709551615 / 128 = 144115188075855871 from rfl, vput_big (by omega), show 144115188075855871 / 128 = 1125899906842623 from rfl, vput_big (by omega), show 1125899906842623 / 128 = 8796093022207 from rfl,
    vput_big (by omega), show 8796093022207 / 128 = 68719476735 from rfl, vput_big (by omega), show 68719476735 / 128 = 536870911 from rfl, vput_big (by omega), show 536870911 / 128 = 4194303 from rfl, vput_big (by omega), show 4194303 / 128 = 32767 from rfl,
    vput_big (by omega), show 32767 / 128 = 255 from rfl, vput_big (by omega), show 255 / 128 = 1 from rfl, vput_small (by omega)]
  rfl

abbrev tcells5 : List Value := tbl5.flatMap fun p => [.string ⟨p.1.toArray⟩, .int .i64 p.2.1, .int .i64 (p.2.2 : Int)]
theorem tcells5_at : ∀ k (hk : k < 14), tcells5[k * 3]? = some (.string ⟨(tbl5[k]'hk).1.toArray⟩) ∧ tcells5[k * 3 + 1]? = some (.int .i64 (tbl5[k]'hk).2.1) ∧ tcells5[k * 3 + 2]? = some (.int .i64 ((tbl5[k]'hk).2.2 : Int))
  | 0, _ => ⟨rfl, rfl, rfl⟩
  | 1, _ => ⟨rfl, rfl, rfl⟩
  | 2, _ => ⟨rfl, rfl, rfl⟩
  | 3, _ => ⟨rfl, rfl, rfl⟩
  | 4, _ => ⟨rfl, rfl, rfl⟩
  | 5, _ => ⟨rfl, rfl, rfl⟩
  | 6, _ => ⟨rfl, rfl, rfl⟩
  | 7, _ => ⟨rfl, rfl, rfl⟩
  | 8, _ => ⟨rfl, rfl, rfl⟩
  | 9, _ => ⟨rfl, rfl, rfl⟩
  | 10, _ => ⟨rfl, rfl, rfl⟩
  | 11, _ => ⟨rfl, rfl, rfl⟩
  | 12, _ => ⟨rfl, rfl, rfl⟩
  | 13, _ => ⟨rfl, rfl, rfl⟩

set_option maxHeartbeats 2000000 in
set_option maxRecDepth 100000 in
theorem intsKnown_walk (W : World) :
    Calls Try.prog 8 #[] W fun e w' => e = .returned (.bool true) ∧ Below W.heap.size W w' := by
  have hcells : ∀ o w', Below (W.heap.size + 1) (W.alloc (.cells tcells5.toArray o)) w' → ∀ k (hk : k < 14),
      w'.cell? ⟨W.heap.size, k * 3, none⟩ = some (.string ⟨(tbl5[k]'hk).1.toArray⟩) ∧ w'.cell? ⟨W.heap.size, k * 3 + 1, none⟩ = some (.int .i64 (tbl5[k]'hk).2.1) ∧ w'.cell? ⟨W.heap.size, k * 3 + 2, none⟩ = some (.int .i64 ((tbl5[k]'hk).2.2 : Int)) := by
    intro o w' hb k hk
    have h := tcells5_at k hk
    rw [hb.cell (p := ⟨W.heap.size, k * 3, none⟩) (Nat.lt_succ_self _), hb.cell (p := ⟨W.heap.size, k * 3 + 1, none⟩) (Nat.lt_succ_self _), hb.cell (p := ⟨W.heap.size, k * 3 + 2, none⟩) (Nat.lt_succ_self _), cell_of_row _ W.heap.size _ _ _ _ (heap_alloc_new W _), cell_of_row _ W.heap.size _ _ _ _ (heap_alloc_new W _), cell_of_row _ W.heap.size _ _ _ _ (heap_alloc_new W _)]
    simp only [List.getElem?_toArray]
    exact h
  have HC := Lib.hid hcells
  clear hcells
  go_enter Try.func8, Try.ntmps8
  go_wp2
  go_loopw [2] (fun vi wr => ∃ k : Nat, k ≤ 14 ∧ vi = .int .i64 k ∧ Below (W.heap.size + 1) (W.alloc (.cells tcells5.toArray 37)) wr)
    (fun vi _ => (14 - intOf vi).toNat)
  case atStart => exact ⟨0, by omega, rfl, Below.refl _ _⟩
  case round =>
    obtain ⟨k, hk, rfl, hbel⟩ := hrel
    have hz := hbel.size
    simp only [World.size_alloc] at hz
    by_cases hk14 : k < 14
    · have hc := fun w' hw => HC.out 37 w' hw k hk14
      have hv := tbl5_ok k hk14
      obtain ⟨hlb, hnb⟩ := tbl5_bd (tbl5[k]'hk14) (List.getElem_mem _)
      obtain ⟨⟨bs, n, e⟩, hbs⟩ : ∃ p, p = tbl5[k]'hk14 := ⟨_, rfl⟩
      rw [← hbs] at hc hv hlb hnb
      clear hbs
      dsimp only at hc hv hlb hnb
      have G1 := fun (A : Option Addr) (c : Nat) (w : World) (h : Rd w w.heap.size A (cells bs)) (hc : bs.length ≤ c) => Get_ints w.heap.size A c bs n w h (Nat.le_refl _) hc (by omega) hnb
      have hlen1 : (iget bs n).2 = 0 → ((iget bs n).1.length : Int) = n := fun h0 => (iput_iget bs n h0).2.2.1
      have hlen0 := iget_err bs n
      obtain ⟨⟨x, z⟩, hr⟩ : ∃ r, r = iget bs n := ⟨_, rfl⟩
      rw [← hr] at G1 hv hlen1 hlen0
      dsimp only at hv hlen1 hlen0
      subst hv
      have K1 := Lib.hid G1
      have HL1 := Lib.hid hlen1
      have HL0 := Lib.hid hlen0
      clear hr G1 hlen1 hlen0 hnb
      have hkI : (k : Int) < 14 := by omega
      have hS0 : Below (W.heap.size + 1) (W.alloc (.cells tcells5.toArray 37)) wr.drew := hbel.drew
      obtain ⟨T0, hT0⟩ : ∃ T0, T0 = W.alloc (.cells tcells5.toArray 37) := ⟨_, rfl⟩
      rw [← hT0] at hc hS0 hbel
      have HT0 := Lib.hid hT0
      obtain ⟨c5, o5, hcv, hrd, hle⟩ := conv_str wr.drew bs
      go_wp2_with fail
      refine ah_start 17 (fun w' => Below (W.heap.size + 1) T0 w') rfl (by kernel_rfl) hS0 ?_
      intro hS
      (refine mv_val 0 (v := ?_) rfl (by kernel_rfl) (by kernel_rfl) (by kernel_rfl) (fun _ _ _ h => h) (by rfl) hS ?_ ?_; rotate_left; (focus (intro w hSw; (try dsimp only at hSw); (have f1 := hc w hSw; have f2 := hkI); go_simp; first | done | with_reducible rfl)); simp only [Act.put, List.setIfInBounds_toArray, List.set_cons_zero, List.set_cons_succ])
      (refine mv_val 1 (v := ?_) rfl (by kernel_rfl) (by kernel_rfl) (by kernel_rfl) (fun _ _ _ h => h) (by rfl) hS ?_ ?_; rotate_left; (focus (intro w hSw; (try dsimp only at hSw); (have f1 := hc w hSw; have f2 := hkI); go_simp; first | done | with_reducible rfl)); simp only [Act.put, List.setIfInBounds_toArray, List.set_cons_zero, List.set_cons_succ])
      (refine mv_val 2 (v := ?_) rfl (by kernel_rfl) (by kernel_rfl) (by kernel_rfl) (fun _ _ _ h => h) (by rfl) hS ?_ ?_; rotate_left; (focus (intro w hSw; (try dsimp only at hSw); (have f1 := hc w hSw; have f2 := hkI); go_simp; first | done | with_reducible rfl)); simp only [Act.put, List.setIfInBounds_toArray, List.set_cons_zero, List.set_cons_succ])
      (refine mv_val 3 (v := ?_) rfl (by kernel_rfl) (by kernel_rfl) (by kernel_rfl) (fun _ _ _ h => h) (by rfl) hS ?_ ?_; rotate_left; (focus (intro w hSw; (try dsimp only at hSw); (have f1 := hc w hSw; have f2 := hkI); go_simp; first | done | with_reducible rfl)); simp only [Act.put, List.setIfInBounds_toArray, List.set_cons_zero, List.set_cons_succ])
      (refine mv_val 4 (v := ?_) rfl (by kernel_rfl) (by kernel_rfl) (by kernel_rfl) (fun _ _ _ h => h) (by rfl) hS ?_ ?_; rotate_left; (focus (intro w hSw; (try dsimp only at hSw); (have f1 := hc w hSw; have f2 := hkI); go_simp; first | done | with_reducible rfl)); simp only [Act.put, List.setIfInBounds_toArray, List.set_cons_zero, List.set_cons_succ])
      (refine mv_val 6 (v := ?_) rfl (by kernel_rfl) (by kernel_rfl) (by kernel_rfl) (fun _ _ _ h => h) (by rfl) hS ?_ ?_; rotate_left; (focus (intro w hSw; (try dsimp only at hSw); (have f1 := hc w hSw; have f2 := hkI); go_simp; first | done | with_reducible rfl)); simp only [Act.put, List.setIfInBounds_toArray, List.set_cons_zero, List.set_cons_succ])
      (refine mv_val 7 (v := ?_) rfl (by kernel_rfl) (by kernel_rfl) (by kernel_rfl) (fun _ _ _ h => h) (by rfl) hS ?_ ?_; rotate_left; (focus (intro w hSw; (try dsimp only at hSw); (have f1 := hc w hSw; have f2 := hkI); go_simp; first | done | with_reducible rfl)); simp only [Act.put, List.setIfInBounds_toArray, List.set_cons_zero, List.set_cons_succ])
      (refine mv_val 8 (v := ?_) rfl (by kernel_rfl) (by kernel_rfl) (by kernel_rfl) (fun _ _ _ h => h) (by rfl) hS ?_ ?_; rotate_left; (focus (intro w hSw; (try dsimp only at hSw); (have f1 := hc w hSw; have f2 := hkI); go_simp; first | done | with_reducible rfl)); simp only [Act.put, List.setIfInBounds_toArray, List.set_cons_zero, List.set_cons_succ])
      (refine mv_val 9 (v := ?_) rfl (by kernel_rfl) (by kernel_rfl) (by kernel_rfl) (fun _ _ _ h => h) (by rfl) hS ?_ ?_; rotate_left; (focus (intro w hSw; (try dsimp only at hSw); (have f1 := hc w hSw; have f2 := hkI); go_simp; first | done | with_reducible rfl)); simp only [Act.put, List.setIfInBounds_toArray, List.set_cons_zero, List.set_cons_succ])
      (refine mv_val 10 (v := ?_) rfl (by kernel_rfl) (by kernel_rfl) (by kernel_rfl) (fun _ _ _ h => h) (by rfl) hS ?_ ?_; rotate_left; (focus (intro w hSw; (try dsimp only at hSw); (have f1 := hc w hSw; have f2 := hkI); go_simp; first | done | with_reducible rfl)); simp only [Act.put, List.setIfInBounds_toArray, List.set_cons_zero, List.set_cons_succ])
      refine mv_step 5 rfl (by kernel_rfl) (by rfl) (fun K hK => ?_)
      go_simp
      refine hK _ _ ?_ ?_ <;> clear hK K
      · exact (hS.drew).alloc (by simp; omega) _
      have hS5 : Below (W.heap.size + 1) T0 (wr.drew.drew.alloc o5) := (hS.drew).alloc (by simp; omega) _
      replace hS := hS5
      clear hcv
      try simp only [Act.put, List.setIfInBounds_toArray, List.set_cons_zero, List.set_cons_succ]
      (refine mv_call 11 (f := ?_) (args := ?_) rfl (by kernel_rfl) (by rfl) ?_ ?_; rotate_left 2; (focus (go_simp; first | done | with_reducible rfl | (refine ⟨?_, ?_⟩ <;> with_reducible rfl))))
      refine (K1.out _ _ _ (hrd.more (by simp)) hle).mono ?_; rintro e w5 ⟨A5, c6, rfl, hown5, bl5⟩
      have hS6 : Below (W.heap.size + 1) T0 w5 := hS.trans (bl5.mono (by simp; omega))
      refine ⟨_, rfl, hS6, ?_⟩
      replace hS := hS6
      simp only [Act.put, List.setIfInBounds_toArray, List.set_cons_zero, List.set_cons_succ]
      (refine mv_val 12 (v := ?_) rfl (by kernel_rfl) (by kernel_rfl) (by kernel_rfl) (fun _ _ _ h => h) (by rfl) hS ?_ ?_; rotate_left; (focus (intro w hSw; (try dsimp only at hSw); (have f1 := hc w hSw; have f2 := hkI); go_simp; first | done | with_reducible rfl)); simp only [Act.put, List.setIfInBounds_toArray, List.set_cons_zero, List.set_cons_succ])
      (refine mv_val 13 (v := ?_) rfl (by kernel_rfl) (by kernel_rfl) (by kernel_rfl) (fun _ _ _ h => h) (by rfl) hS ?_ ?_; rotate_left; (focus (intro w hSw; (try dsimp only at hSw); (have f1 := hc w hSw; have f2 := hkI); go_simp; first | done | with_reducible rfl)); simp only [Act.put, List.setIfInBounds_toArray, List.set_cons_zero, List.set_cons_succ])
      (refine mv_val 15 (v := ?_) rfl (by kernel_rfl) (by kernel_rfl) (by kernel_rfl) (fun _ _ _ h => h) (by rfl) hS ?_ ?_; rotate_left; (focus (intro w hSw; (try dsimp only at hSw); (have f1 := hc w hSw; have f2 := hkI); go_simp; first | done | with_reducible rfl)); simp only [Act.put, List.setIfInBounds_toArray, List.set_cons_zero, List.set_cons_succ])
      (refine mv_val 14 (v := ?_) rfl (by kernel_rfl) (by kernel_rfl) (by kernel_rfl) (fun _ _ _ h => h) (by rfl) hS ?_ ?_; rotate_left; (focus (intro w hSw; (try dsimp only at hSw); (have f1 := hc w hSw; have f2 := hkI); go_simp; first | done | with_reducible rfl)); simp only [Act.put, List.setIfInBounds_toArray, List.set_cons_zero, List.set_cons_succ])
      (refine mv_val 16 (v := ?_) rfl (by kernel_rfl) (by kernel_rfl) (by kernel_rfl) (fun _ _ _ h => h) (by rfl) hS ?_ ?_; rotate_left; (focus (intro w hSw; (try dsimp only at hSw); (have f1 := hc w hSw; have f2 := hkI); go_simp; first | done | with_reducible rfl)); simp only [Act.put, List.setIfInBounds_toArray, List.set_cons_zero, List.set_cons_succ])
      refine wpAnyH_done (by kernel_rfl) ?_ _
      obtain ⟨_, hc8, hc9⟩ := hc w5 hS
      by_cases h0 : z = 0
      · have hn := HL1.out h0
        subst h0
        have hn2 : ((x.length : Int) != n) = false := by simp [hn]
        clear hn
        go_wp2_with fail
        go_roundw
        case rel => exact ⟨k + 1, by omega, by go_num, by rw [← HT0.out]; exact hS⟩
        case measure => simp [intOf]; omega
      · have hx := HL0.out h0
        have hz1 : ((z : Int) != 0) = true := by simpa using h0
        have hz2 : ((z : Int) == 0) = false := by simpa using h0
        subst hx
        clear h0
        go_wp2_with fail
        go_roundw
        case rel => exact ⟨k + 1, by omega, by go_num, by rw [← HT0.out]; exact hS⟩
        case measure => simp [intOf]; omega
    · obtain rfl : k = 14 := by omega
      have hb0 : Below W.heap.size W wr := ((Below.refl _ _).alloc (Nat.le_refl _) _).trans (hbel.mono (Nat.le_succ _))
      have hz0 := hb0.size
      have C1 : ∀ (A : Option Addr) (w : World), Rd w w.heap.size A (num [5, 5, 5]) → Calls Try.prog 9 #[.slice A 3 3] w (RetB w [1, 10, 1, 9, 1, 0]) := fun A w h => by
        rw [← iput_five]; exact Put_ints A 3 [5, 5, 5] (by decide) w h
      have C2 : ∀ (w : World), Calls Try.prog 9 #[.slice none 0 0] w (RetB w []) := fun w => Put_ints none 0 [] (by decide) w (Rd.nil _ _ _)
      have C3 : ∀ (A : Option Addr) (w : World), Rd w w.heap.size A (num [-9223372036854775808]) → Calls Try.prog 9 #[.slice A 1 1] w (RetB w [1, 255, 255, 255, 255, 255, 255, 255, 255, 255, 1]) := fun A w h => by
        rw [← iput_least]; exact Put_ints A 1 [-9223372036854775808] (by decide) w h
      have K1 := Lib.hid C1
      have K2 := Lib.hid C2
      have K3 := Lib.hid C3
      clear C1 C2 C3 hk hk14
      go_wp2_with fail
      refine (K1.out _ _ (by exact rd_arr _ (num [5, 5, 5]) _ _ _ rfl (by simp))).mono ?_; rintro e w1 ⟨A1, c1, rfl, hown1, bl1⟩
      have b1 : Below W.heap.size W w1 := (hb0.alloc hz0 _).trans (bl1.mono (by simp; omega))
      have hz1 := b1.size
      have hcv1 : (convert 23 9 (.slice A1 6 c1)).run Try.prog w1 = .ok (.string ⟨#[1, 10, 1, 9, 1, 0]⟩) w1 := conv_own hown1
      go_wp2_with fail
      refine (K2.out _).mono ?_; rintro e w2 ⟨A2, c2, rfl, hown2, bl2⟩
      have b2 : Below W.heap.size W w2 := b1.trans (bl2.mono hz1)
      have hz2 := b2.size
      go_wp2_with fail
      refine (K3.out _ _ (by exact rd_arr _ (num [-9223372036854775808]) _ _ _ rfl (by simp))).mono ?_; rintro e w3 ⟨A3, c3, rfl, hown3, bl3⟩
      have b3 : Below W.heap.size W w3 := (b2.alloc hz2 _).trans (bl3.mono (by simp; omega))
      have hz3 := b3.size
      have hcv3 : (convert 23 9 (.slice A3 11 c3)).run Try.prog w3 = .ok (.string ⟨#[1, 255, 255, 255, 255, 255, 255, 255, 255, 255, 1]⟩) w3 := conv_own hown3
      go_wp2_with fail
      refine (puts5_any _).mono ?_; rintro e w5 ⟨rfl, hb5⟩
      go_wp2_with fail
      go_ret
      exact ⟨rfl, b3.trans (hb5.mono hz3)⟩
end Go.Proofs.Ytepffjaomjpnpaa

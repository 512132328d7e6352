/- The walk of the reference's Put (layer 5): it answers iput. For rows of at most 65536. -/
import Derived.Test.YtiijnfakphhbeaaJntRef
import Derived.Deep.Onto
namespace Go.Proofs.Ytiijnfakphhbeaa.In
open Go.RowKit
set_option linter.unusedVariables false
set_option linter.unusedSimpArgs false

theorem own_bel {w w' : World} {base : Nat} {e : TypeId} {sz n : Nat} {v : Value} {xs : List Value} (h : w.ownsRow base e sz v n xs) (hb : Below w.heap.size w w') : w'.ownsRow base e sz v n xs := by
  obtain ⟨h1, h2⟩ := h
  refine ⟨h1, ?_⟩
  rcases h2 with h2 | ⟨g, cap, cur, hv, hbase, hg, rest⟩
  · exact .inl h2
  · exact .inr ⟨g, cap, cur, hv, hbase, (hb.block g (Array.getElem?_eq_some_iff.1 hg).1).trans hg, rest⟩

set_option maxHeartbeats 4000000 in
set_option maxRecDepth 100000 in
theorem rPut_ints (B : Nat) (A : Option Addr) (c : Nat) (l : List Int) (w : World) (h : Rd w B A (num l)) (hB : B ≤ w.heap.size) (hl : l.length ≤ 65536) :
    Calls Try.prog 33 #[.slice A l.length c] w (RetB w (iput l)) := by
  have C1 := rChanges_any B A c l w h hB (by omega)
  have hip : iput l = (rl 0 0 (chg 0 0 l)).flatMap enc1 := rfl
  rw [hip]
  have hCi := chg_i64 l 0 0
  have hCl := chg_length l 0 0
  obtain ⟨C, hC⟩ : ∃ C, C = chg 0 0 l := ⟨_, rfl⟩
  rw [← hC] at C1 hCi hCl ⊢
  rw [← hCl] at C1
  obtain ⟨N, hN⟩ : ∃ N, N = C.length := ⟨_, rfl⟩
  rw [← hN] at C1 hCl
  rw [← hCl]
  have hN6 : N ≤ 65536 := by omega
  have HC1 := Lib.hid C1
  have HN := Lib.hid hN
  have HI := Lib.hid hCi
  clear hC hip C1 hCl hCi hN h
  go_enter Try.func33, Try.ntmps33
  go_wp2_with fail
  have C1 := HC1.out
  refine C1.mono ?_; rintro e w1 ⟨A1, c1, rfl, hown1, hb1⟩
  clear C1 HC1
  have hz1 := hb1.size
  have hrd1 : Rd w1 w1.heap.size A1 (ucells C) := rd_own hown1
  go_wp2_with fail
  go_loopw [4, 5, 6] (fun v4 v5 v6 wr => ∃ (k m : Nat) (ch : Int) (pre : List (Nat × Int)) (bs : List UInt8), k ≤ N ∧ m ≤ k ∧ v5 = .int .u64 m ∧ v6 = .int .i64 k ∧ rl 0 0 C = pre ++ rl m ch (C.drop k) ∧ (m ≠ 0 → C[k]? = some ch) ∧
      bs = pre.flatMap enc1 ∧ bs.length ≤ 20 * k ∧ wr.ownsRow w1.heap.size 5 1 v4 bs.length (cells bs) ∧ Below w1.heap.size w1 wr)
    (fun _ _ v6 _ => N - (intOf v6).toNat)
  case atStart => exact ⟨0, 0, 0, [], [], by omega, by omega, rfl, rfl, rfl, by simp, rfl, by simp, World.ownsRow_nil _ _ _ _, Below.refl _ _⟩
  case round =>
    obtain ⟨k, m, ch, pre, bs, hk, hm, rfl, rfl, hR, hch, hbs, hbl, hown, hnx⟩ := hrel
    obtain ⟨A4, c4, rfl, hc4⟩ := own_form hown
    have HR := Lib.hid hR
    have HCH := Lib.hid hch
    have HBS := Lib.hid hbs
    clear hR hch hbs
    by_cases hlt : k < N
    · obtain ⟨b, o, rfl, hb, hcell⟩ := hrd1.at (k := k) (by simp [← HN.out]; exact hlt)
      obtain ⟨x, hx⟩ : ∃ x, C[k]? = some x := ⟨_, List.getElem?_eq_getElem (by rw [← HN.out]; exact hlt)⟩
      have hxi : i64 x := HI.out x (List.mem_of_getElem? hx)
      have hck := hcell k (.int .u64 (toU x)) (by rw [List.getElem?_map, hx]; rfl)
      have hmx : m ≠ 0 → ch = x := fun h0 => by
        have := HCH.out h0
        rw [hx] at this; exact (Option.some.inj this).symm
      have hdr : C.drop k = x :: C.drop (k + 1) := by
        have h1 : k < C.length := by rw [← HN.out]; exact hlt
        rw [List.drop_eq_getElem_cons h1]
        rw [List.getElem?_eq_getElem h1] at hx
        rw [Option.some.inj hx]
      have hR2 : rl 0 0 C = pre ++ rl (m + 1) x (C.drop (k + 1)) := by rw [HR.out, hdr, rl_go hmx]
      have HR2 := Lib.hid hR2
      have HXI := Lib.hid hxi
      have F1 : ∀ w', Below w1.heap.size w1 w' → w'.cell? ⟨b, o + k, none⟩ = some (.int .u64 (toU x)) := fun w' hw => (hw.cell (p := ⟨b, o + k, none⟩) hb).trans hck
      have HX := Lib.hid hx
      have hlI : (k : Int) < (N : Int) := by omega
      have hkI0 : (0 : Int) ≤ (k : Int) + 1 := by omega
      have hwk : IntKind.i64.wrap ((k : Int) + 1) = (k : Int) + 1 := by rw [IntKind.wrap_i64]; omega
      have hmI : (m : Int) ≤ 65536 := by omega
      have ht1 : ((k : Int) + 1).toNat = k + 1 := by omega
      have HW := Lib.hid hwk
      have HT := Lib.hid ht1
      clear HR HCH hR2 hxi hmx hdr hx hwk ht1
      have hcase : (k + 1 < N ∧ C[k + 1]? = some x) ∨ (k + 1 < N ∧ C[k + 1]? ≠ some x) ∨ k + 1 = N := by
        rcases Nat.lt_or_ge (k + 1) N with h1 | h1
        · by_cases h2 : C[k + 1]? = some x
          · exact .inl ⟨h1, h2⟩
          · exact .inr (.inl ⟨h1, h2⟩)
        · exact .inr (.inr (by omega))
      rcases hcase with ⟨h1, h2⟩ | hcase
      · have hck2 := hcell (k + 1) (.int .u64 (toU x)) (by rw [List.getElem?_map, h2]; rfl)
        have F2 : ∀ w', Below w1.heap.size w1 w' → w'.cell? ⟨b, o + (k + 1), none⟩ = some (.int .u64 (toU x)) := fun w' hw => (hw.cell (p := ⟨b, o + (k + 1), none⟩) hb).trans hck2
        have h1I : (k : Int) + 1 < (N : Int) := by omega
        have H2 := Lib.hid h2
        clear hcell h2 hck2 hck
        go_wp2_with fail
        refine ah_start 17 (fun w' => Below w1.heap.size w1 w') rfl (by kernel_rfl) hnx.drew ?_
        intro hS
        (refine mv_val 0 (v := ?_) rfl (by kernel_rfl) (by kernel_rfl) (by kernel_rfl) (fun _ _ _ h => h) (by rfl) hS ?_ ?_; rotate_left; (focus (intro w hSw; (try dsimp only at hSw); (have f1 := F1 w hSw; have f2 := F2 w hSw; have f3 := hlI; have f4 := h1I; have f5 := HW.out; have f6 := HT.out; have f7 := hkI0); go_simp; first | done | with_reducible rfl)); simp only [Act.put, List.setIfInBounds_toArray, List.set_cons_zero, List.set_cons_succ])
        (refine mv_val 1 (v := ?_) rfl (by kernel_rfl) (by kernel_rfl) (by kernel_rfl) (fun _ _ _ h => h) (by rfl) hS ?_ ?_; rotate_left; (focus (intro w hSw; (try dsimp only at hSw); (have f1 := F1 w hSw; have f2 := F2 w hSw; have f3 := hlI; have f4 := h1I; have f5 := HW.out; have f6 := HT.out; have f7 := hkI0); go_simp; first | done | with_reducible rfl)); simp only [Act.put, List.setIfInBounds_toArray, List.set_cons_zero, List.set_cons_succ])
        (refine mv_val 2 (v := ?_) rfl (by kernel_rfl) (by kernel_rfl) (by kernel_rfl) (fun _ _ _ h => h) (by rfl) hS ?_ ?_; rotate_left; (focus (intro w hSw; (try dsimp only at hSw); (have f1 := F1 w hSw; have f2 := F2 w hSw; have f3 := hlI; have f4 := h1I; have f5 := HW.out; have f6 := HT.out; have f7 := hkI0); go_simp; first | done | with_reducible rfl)); simp only [Act.put, List.setIfInBounds_toArray, List.set_cons_zero, List.set_cons_succ])
        (refine mv_val 3 (v := ?_) rfl (by kernel_rfl) (by kernel_rfl) (by kernel_rfl) (fun _ _ _ h => h) (by rfl) hS ?_ ?_; rotate_left; (focus (intro w hSw; (try dsimp only at hSw); (have f1 := F1 w hSw; have f2 := F2 w hSw; have f3 := hlI; have f4 := h1I; have f5 := HW.out; have f6 := HT.out; have f7 := hkI0); go_simp; first | done | with_reducible rfl)); simp only [Act.put, List.setIfInBounds_toArray, List.set_cons_zero, List.set_cons_succ])
        (refine mv_val 4 (v := ?_) rfl (by kernel_rfl) (by kernel_rfl) (by kernel_rfl) (fun _ _ _ h => h) (by rfl) hS ?_ ?_; rotate_left; (focus (intro w hSw; (try dsimp only at hSw); (have f1 := F1 w hSw; have f2 := F2 w hSw; have f3 := hlI; have f4 := h1I; have f5 := HW.out; have f6 := HT.out; have f7 := hkI0); go_simp; first | done | with_reducible rfl)); simp only [Act.put, List.setIfInBounds_toArray, List.set_cons_zero, List.set_cons_succ])
        (refine mv_val 5 (v := ?_) rfl (by kernel_rfl) (by kernel_rfl) (by kernel_rfl) (fun _ _ _ h => h) (by rfl) hS ?_ ?_; rotate_left; (focus (intro w hSw; (try dsimp only at hSw); (have f1 := F1 w hSw; have f2 := F2 w hSw; have f3 := hlI; have f4 := h1I; have f5 := HW.out; have f6 := HT.out; have f7 := hkI0); go_simp; first | done | with_reducible rfl)); simp only [Act.put, List.setIfInBounds_toArray, List.set_cons_zero, List.set_cons_succ])
        (refine mv_val 6 (v := ?_) rfl (by kernel_rfl) (by kernel_rfl) (by kernel_rfl) (fun _ _ _ h => h) (by rfl) hS ?_ ?_; rotate_left; (focus (intro w hSw; (try dsimp only at hSw); (have f1 := F1 w hSw; have f2 := F2 w hSw; have f3 := hlI; have f4 := h1I; have f5 := HW.out; have f6 := HT.out; have f7 := hkI0); go_simp; first | done | with_reducible rfl)); simp only [Act.put, List.setIfInBounds_toArray, List.set_cons_zero, List.set_cons_succ])
        (refine mv_val 7 (v := ?_) rfl (by kernel_rfl) (by kernel_rfl) (by kernel_rfl) (fun _ _ _ h => h) (by rfl) hS ?_ ?_; rotate_left; (focus (intro w hSw; (try dsimp only at hSw); (have f1 := F1 w hSw; have f2 := F2 w hSw; have f3 := hlI; have f4 := h1I; have f5 := HW.out; have f6 := HT.out; have f7 := hkI0); go_simp; first | done | with_reducible rfl)); simp only [Act.put, List.setIfInBounds_toArray, List.set_cons_zero, List.set_cons_succ])
        (refine mv_val 8 (v := ?_) rfl (by kernel_rfl) (by kernel_rfl) (by kernel_rfl) (fun _ _ _ h => h) (by rfl) hS ?_ ?_; rotate_left; (focus (intro w hSw; (try dsimp only at hSw); (have f1 := F1 w hSw; have f2 := F2 w hSw; have f3 := hlI; have f4 := h1I; have f5 := HW.out; have f6 := HT.out; have f7 := hkI0); go_simp; first | done | with_reducible rfl)); simp only [Act.put, List.setIfInBounds_toArray, List.set_cons_zero, List.set_cons_succ])
        (refine mv_val 9 (v := ?_) rfl (by kernel_rfl) (by kernel_rfl) (by kernel_rfl) (fun _ _ _ h => h) (by rfl) hS ?_ ?_; rotate_left; (focus (intro w hSw; (try dsimp only at hSw); (have f1 := F1 w hSw; have f2 := F2 w hSw; have f3 := hlI; have f4 := h1I; have f5 := HW.out; have f6 := HT.out; have f7 := hkI0); go_simp; first | done | with_reducible rfl)); simp only [Act.put, List.setIfInBounds_toArray, List.set_cons_zero, List.set_cons_succ])
        (refine mv_val 10 (v := ?_) rfl (by kernel_rfl) (by kernel_rfl) (by kernel_rfl) (fun _ _ _ h => h) (by rfl) hS ?_ ?_; rotate_left; (focus (intro w hSw; (try dsimp only at hSw); (have f1 := F1 w hSw; have f2 := F2 w hSw; have f3 := hlI; have f4 := h1I; have f5 := HW.out; have f6 := HT.out; have f7 := hkI0); go_simp; first | done | with_reducible rfl)); simp only [Act.put, List.setIfInBounds_toArray, List.set_cons_zero, List.set_cons_succ])
        (refine mv_val 11 (v := ?_) rfl (by kernel_rfl) (by kernel_rfl) (by kernel_rfl) (fun _ _ _ h => h) (by rfl) hS ?_ ?_; rotate_left; (focus (intro w hSw; (try dsimp only at hSw); (have f1 := F1 w hSw; have f2 := F2 w hSw; have f3 := hlI; have f4 := h1I; have f5 := HW.out; have f6 := HT.out; have f7 := hkI0); go_simp; first | done | with_reducible rfl)); simp only [Act.put, List.setIfInBounds_toArray, List.set_cons_zero, List.set_cons_succ])
        (refine mv_val 12 (v := ?_) rfl (by kernel_rfl) (by kernel_rfl) (by kernel_rfl) (fun _ _ _ h => h) (by rfl) hS ?_ ?_; rotate_left; (focus (intro w hSw; (try dsimp only at hSw); (have f1 := F1 w hSw; have f2 := F2 w hSw; have f3 := hlI; have f4 := h1I; have f5 := HW.out; have f6 := HT.out; have f7 := hkI0); go_simp; first | done | with_reducible rfl)); simp only [Act.put, List.setIfInBounds_toArray, List.set_cons_zero, List.set_cons_succ])
        (refine mv_val 13 (v := ?_) rfl (by kernel_rfl) (by kernel_rfl) (by kernel_rfl) (fun _ _ _ h => h) (by rfl) hS ?_ ?_; rotate_left; (focus (intro w hSw; (try dsimp only at hSw); (have f1 := F1 w hSw; have f2 := F2 w hSw; have f3 := hlI; have f4 := h1I; have f5 := HW.out; have f6 := HT.out; have f7 := hkI0); go_simp; first | done | with_reducible rfl)); simp only [Act.put, List.setIfInBounds_toArray, List.set_cons_zero, List.set_cons_succ])
        (refine mv_val 14 (v := ?_) rfl (by kernel_rfl) (by kernel_rfl) (by kernel_rfl) (fun _ _ _ h => h) (by rfl) hS ?_ ?_; rotate_left; (focus (intro w hSw; (try dsimp only at hSw); (have f1 := F1 w hSw; have f2 := F2 w hSw; have f3 := hlI; have f4 := h1I; have f5 := HW.out; have f6 := HT.out; have f7 := hkI0); go_simp; first | done | with_reducible rfl)); simp only [Act.put, List.setIfInBounds_toArray, List.set_cons_zero, List.set_cons_succ])
        (refine mv_val 15 (v := ?_) rfl (by kernel_rfl) (by kernel_rfl) (by kernel_rfl) (fun _ _ _ h => h) (by rfl) hS ?_ ?_; rotate_left; (focus (intro w hSw; (try dsimp only at hSw); (have f1 := F1 w hSw; have f2 := F2 w hSw; have f3 := hlI; have f4 := h1I; have f5 := HW.out; have f6 := HT.out; have f7 := hkI0); go_simp; first | done | with_reducible rfl)); simp only [Act.put, List.setIfInBounds_toArray, List.set_cons_zero, List.set_cons_succ])
        (refine mv_val 16 (v := ?_) rfl (by kernel_rfl) (by kernel_rfl) (by kernel_rfl) (fun _ _ _ h => h) (by rfl) hS ?_ ?_; rotate_left; (focus (intro w hSw; (try dsimp only at hSw); (have f1 := F1 w hSw; have f2 := F2 w hSw; have f3 := hlI; have f4 := h1I; have f5 := HW.out; have f6 := HT.out; have f7 := hkI0); go_simp; first | done | with_reducible rfl)); simp only [Act.put, List.setIfInBounds_toArray, List.set_cons_zero, List.set_cons_succ])
        refine wpAnyH_done (by kernel_rfl) ?_ _
        go_wp2_with fail
        go_roundw
        case rel =>
          exact ⟨k + 1, m + 1, x, pre, bs, by omega, by omega, by go_num, by go_num, HR2.out, fun _ => H2.out, HBS.out, by omega, hown.drew, hS⟩
        case measure => simp [intOf]; omega
      · have hhd : (C.drop (k + 1)).head? ≠ some x := by
          rw [List.head?_drop]
          rcases hcase with ⟨h1, h2⟩ | h1
          · exact h2
          · rw [List.getElem?_eq_none (by rw [← HN.out]; omega)]; simp
        have hR3 : rl 0 0 C = (pre ++ [(m + 1, x)]) ++ rl 0 0 (C.drop (k + 1)) := by rw [HR2.out, rl_end (by omega) _ hhd]; simp
        have HR3 := Lib.hid hR3
        have hz := zig_nat HXI.out
        have P1 := fun w => rPut_any (m + 1) (by omega) w
        rw [show ((m + 1 : Nat) : Int) = (m : Int) + 1 from rfl] at P1
        have Z1 := fun w => rZig_any x HXI.out.1 HXI.out.2 w
        rw [← hz.2] at Z1
        have P2 := fun w => rPut_any (zig x).toNat hz.1 w
        have hl1 := vput_length64 (show m + 1 < 18446744073709551616 by omega)
        have hl2 := vput_length64 hz.1
        have he1 : enc1 (m + 1, x) = vput (m + 1) ++ vput (zig x).toNat := rfl
        obtain ⟨z, hzz⟩ : ∃ z, z = (zig x).toNat := ⟨_, rfl⟩
        obtain ⟨e1, hee1⟩ : ∃ z, z = vput (m + 1) := ⟨_, rfl⟩
        obtain ⟨e2, hee2⟩ : ∃ z, z = vput (zig x).toNat := ⟨_, rfl⟩
        rw [← hee1, ← hee2] at he1
        rw [← hee1] at P1 hl1
        rw [← hee2] at P2 hl2
        rw [← hzz] at P2 Z1
        have HP1 := Lib.hid P1
        have HP2 := Lib.hid P2
        have HZ := Lib.hid Z1
        have HE := Lib.hid he1
        have hub : wrap64 (toU x) = x := u64_back HXI.out
        have HUB := Lib.hid hub
        clear hR3 hz P1 P2 Z1 he1 hzz hee1 hee2 HR2 hhd hub
        rcases hcase with ⟨h1, h2⟩ | h1
        · obtain ⟨y, hy⟩ : ∃ y, C[k + 1]? = some y := ⟨_, List.getElem?_eq_getElem (by rw [← HN.out]; exact h1)⟩
          have hck2 := hcell (k + 1) (.int .u64 (toU y)) (by rw [List.getElem?_map, hy]; rfl)
          have F2 : ∀ w', Below w1.heap.size w1 w' → w'.cell? ⟨b, o + (k + 1), none⟩ = some (.int .u64 (toU y)) := fun w' hw => (hw.cell (p := ⟨b, o + (k + 1), none⟩) hb).trans hck2
          have h1I : (k : Int) + 1 < (N : Int) := by omega
          have hne : ¬ toU y = toU x := fun e => h2 (by rw [hy, u64_inj (HI.out y (List.mem_of_getElem? hy)) HXI.out e])
          have HNE : Hid ((toU y == toU x) = false) := Lib.hid (by simpa using hne)
          clear hcell h2 hck2 hck hy hne
          go_wp2_with fail
          refine ah_start 17 (fun w' => Below w1.heap.size w1 w') rfl (by kernel_rfl) hnx.drew ?_
          intro hS
          (refine mv_val 0 (v := ?_) rfl (by kernel_rfl) (by kernel_rfl) (by kernel_rfl) (fun _ _ _ h => h) (by rfl) hS ?_ ?_; rotate_left; (focus (intro w hSw; (try dsimp only at hSw); (have f1 := F1 w hSw; have f2 := F2 w hSw; have f3 := hlI; have f4 := h1I; have f5 := HW.out; have f6 := HT.out; have f7 := hkI0; have f8 := HNE.out); go_simp; first | done | with_reducible rfl)); simp only [Act.put, List.setIfInBounds_toArray, List.set_cons_zero, List.set_cons_succ])
          (refine mv_val 1 (v := ?_) rfl (by kernel_rfl) (by kernel_rfl) (by kernel_rfl) (fun _ _ _ h => h) (by rfl) hS ?_ ?_; rotate_left; (focus (intro w hSw; (try dsimp only at hSw); (have f1 := F1 w hSw; have f2 := F2 w hSw; have f3 := hlI; have f4 := h1I; have f5 := HW.out; have f6 := HT.out; have f7 := hkI0; have f8 := HNE.out); go_simp; first | done | with_reducible rfl)); simp only [Act.put, List.setIfInBounds_toArray, List.set_cons_zero, List.set_cons_succ])
          (refine mv_val 2 (v := ?_) rfl (by kernel_rfl) (by kernel_rfl) (by kernel_rfl) (fun _ _ _ h => h) (by rfl) hS ?_ ?_; rotate_left; (focus (intro w hSw; (try dsimp only at hSw); (have f1 := F1 w hSw; have f2 := F2 w hSw; have f3 := hlI; have f4 := h1I; have f5 := HW.out; have f6 := HT.out; have f7 := hkI0; have f8 := HNE.out); go_simp; first | done | with_reducible rfl)); simp only [Act.put, List.setIfInBounds_toArray, List.set_cons_zero, List.set_cons_succ])
          (refine mv_val 3 (v := ?_) rfl (by kernel_rfl) (by kernel_rfl) (by kernel_rfl) (fun _ _ _ h => h) (by rfl) hS ?_ ?_; rotate_left; (focus (intro w hSw; (try dsimp only at hSw); (have f1 := F1 w hSw; have f2 := F2 w hSw; have f3 := hlI; have f4 := h1I; have f5 := HW.out; have f6 := HT.out; have f7 := hkI0; have f8 := HNE.out); go_simp; first | done | with_reducible rfl)); simp only [Act.put, List.setIfInBounds_toArray, List.set_cons_zero, List.set_cons_succ])
          (refine mv_val 4 (v := ?_) rfl (by kernel_rfl) (by kernel_rfl) (by kernel_rfl) (fun _ _ _ h => h) (by rfl) hS ?_ ?_; rotate_left; (focus (intro w hSw; (try dsimp only at hSw); (have f1 := F1 w hSw; have f2 := F2 w hSw; have f3 := hlI; have f4 := h1I; have f5 := HW.out; have f6 := HT.out; have f7 := hkI0; have f8 := HNE.out); go_simp; first | done | with_reducible rfl)); simp only [Act.put, List.setIfInBounds_toArray, List.set_cons_zero, List.set_cons_succ])
          (refine mv_val 5 (v := ?_) rfl (by kernel_rfl) (by kernel_rfl) (by kernel_rfl) (fun _ _ _ h => h) (by rfl) hS ?_ ?_; rotate_left; (focus (intro w hSw; (try dsimp only at hSw); (have f1 := F1 w hSw; have f2 := F2 w hSw; have f3 := hlI; have f4 := h1I; have f5 := HW.out; have f6 := HT.out; have f7 := hkI0; have f8 := HNE.out); go_simp; first | done | with_reducible rfl)); simp only [Act.put, List.setIfInBounds_toArray, List.set_cons_zero, List.set_cons_succ])
          (refine mv_val 6 (v := ?_) rfl (by kernel_rfl) (by kernel_rfl) (by kernel_rfl) (fun _ _ _ h => h) (by rfl) hS ?_ ?_; rotate_left; (focus (intro w hSw; (try dsimp only at hSw); (have f1 := F1 w hSw; have f2 := F2 w hSw; have f3 := hlI; have f4 := h1I; have f5 := HW.out; have f6 := HT.out; have f7 := hkI0; have f8 := HNE.out); go_simp; first | done | with_reducible rfl)); simp only [Act.put, List.setIfInBounds_toArray, List.set_cons_zero, List.set_cons_succ])
          (refine mv_val 7 (v := ?_) rfl (by kernel_rfl) (by kernel_rfl) (by kernel_rfl) (fun _ _ _ h => h) (by rfl) hS ?_ ?_; rotate_left; (focus (intro w hSw; (try dsimp only at hSw); (have f1 := F1 w hSw; have f2 := F2 w hSw; have f3 := hlI; have f4 := h1I; have f5 := HW.out; have f6 := HT.out; have f7 := hkI0; have f8 := HNE.out); go_simp; first | done | with_reducible rfl)); simp only [Act.put, List.setIfInBounds_toArray, List.set_cons_zero, List.set_cons_succ])
          (refine mv_val 8 (v := ?_) rfl (by kernel_rfl) (by kernel_rfl) (by kernel_rfl) (fun _ _ _ h => h) (by rfl) hS ?_ ?_; rotate_left; (focus (intro w hSw; (try dsimp only at hSw); (have f1 := F1 w hSw; have f2 := F2 w hSw; have f3 := hlI; have f4 := h1I; have f5 := HW.out; have f6 := HT.out; have f7 := hkI0; have f8 := HNE.out); go_simp; first | done | with_reducible rfl)); simp only [Act.put, List.setIfInBounds_toArray, List.set_cons_zero, List.set_cons_succ])
          (refine mv_val 9 (v := ?_) rfl (by kernel_rfl) (by kernel_rfl) (by kernel_rfl) (fun _ _ _ h => h) (by rfl) hS ?_ ?_; rotate_left; (focus (intro w hSw; (try dsimp only at hSw); (have f1 := F1 w hSw; have f2 := F2 w hSw; have f3 := hlI; have f4 := h1I; have f5 := HW.out; have f6 := HT.out; have f7 := hkI0; have f8 := HNE.out); go_simp; first | done | with_reducible rfl)); simp only [Act.put, List.setIfInBounds_toArray, List.set_cons_zero, List.set_cons_succ])
          (refine mv_val 10 (v := ?_) rfl (by kernel_rfl) (by kernel_rfl) (by kernel_rfl) (fun _ _ _ h => h) (by rfl) hS ?_ ?_; rotate_left; (focus (intro w hSw; (try dsimp only at hSw); (have f1 := F1 w hSw; have f2 := F2 w hSw; have f3 := hlI; have f4 := h1I; have f5 := HW.out; have f6 := HT.out; have f7 := hkI0; have f8 := HNE.out); go_simp; first | done | with_reducible rfl)); simp only [Act.put, List.setIfInBounds_toArray, List.set_cons_zero, List.set_cons_succ])
          (refine mv_val 11 (v := ?_) rfl (by kernel_rfl) (by kernel_rfl) (by kernel_rfl) (fun _ _ _ h => h) (by rfl) hS ?_ ?_; rotate_left; (focus (intro w hSw; (try dsimp only at hSw); (have f1 := F1 w hSw; have f2 := F2 w hSw; have f3 := hlI; have f4 := h1I; have f5 := HW.out; have f6 := HT.out; have f7 := hkI0; have f8 := HNE.out); go_simp; first | done | with_reducible rfl)); simp only [Act.put, List.setIfInBounds_toArray, List.set_cons_zero, List.set_cons_succ])
          (refine mv_val 12 (v := ?_) rfl (by kernel_rfl) (by kernel_rfl) (by kernel_rfl) (fun _ _ _ h => h) (by rfl) hS ?_ ?_; rotate_left; (focus (intro w hSw; (try dsimp only at hSw); (have f1 := F1 w hSw; have f2 := F2 w hSw; have f3 := hlI; have f4 := h1I; have f5 := HW.out; have f6 := HT.out; have f7 := hkI0; have f8 := HNE.out); go_simp; first | done | with_reducible rfl)); simp only [Act.put, List.setIfInBounds_toArray, List.set_cons_zero, List.set_cons_succ])
          (refine mv_val 13 (v := ?_) rfl (by kernel_rfl) (by kernel_rfl) (by kernel_rfl) (fun _ _ _ h => h) (by rfl) hS ?_ ?_; rotate_left; (focus (intro w hSw; (try dsimp only at hSw); (have f1 := F1 w hSw; have f2 := F2 w hSw; have f3 := hlI; have f4 := h1I; have f5 := HW.out; have f6 := HT.out; have f7 := hkI0; have f8 := HNE.out); go_simp; first | done | with_reducible rfl)); simp only [Act.put, List.setIfInBounds_toArray, List.set_cons_zero, List.set_cons_succ])
          (refine mv_val 14 (v := ?_) rfl (by kernel_rfl) (by kernel_rfl) (by kernel_rfl) (fun _ _ _ h => h) (by rfl) hS ?_ ?_; rotate_left; (focus (intro w hSw; (try dsimp only at hSw); (have f1 := F1 w hSw; have f2 := F2 w hSw; have f3 := hlI; have f4 := h1I; have f5 := HW.out; have f6 := HT.out; have f7 := hkI0; have f8 := HNE.out); go_simp; first | done | with_reducible rfl)); simp only [Act.put, List.setIfInBounds_toArray, List.set_cons_zero, List.set_cons_succ])
          (refine mv_val 15 (v := ?_) rfl (by kernel_rfl) (by kernel_rfl) (by kernel_rfl) (fun _ _ _ h => h) (by rfl) hS ?_ ?_; rotate_left; (focus (intro w hSw; (try dsimp only at hSw); (have f1 := F1 w hSw; have f2 := F2 w hSw; have f3 := hlI; have f4 := h1I; have f5 := HW.out; have f6 := HT.out; have f7 := hkI0; have f8 := HNE.out); go_simp; first | done | with_reducible rfl)); simp only [Act.put, List.setIfInBounds_toArray, List.set_cons_zero, List.set_cons_succ])
          (refine mv_val 16 (v := ?_) rfl (by kernel_rfl) (by kernel_rfl) (by kernel_rfl) (fun _ _ _ h => h) (by rfl) hS ?_ ?_; rotate_left; (focus (intro w hSw; (try dsimp only at hSw); (have f1 := F1 w hSw; have f2 := F2 w hSw; have f3 := hlI; have f4 := h1I; have f5 := HW.out; have f6 := HT.out; have f7 := hkI0; have f8 := HNE.out); go_simp; first | done | with_reducible rfl)); simp only [Act.put, List.setIfInBounds_toArray, List.set_cons_zero, List.set_cons_succ])
          refine wpAnyH_done (by kernel_rfl) ?_ _
          go_wp2_with fail
          refine (HP1.out _).mono ?_; rintro e w2 ⟨A5, c5, rfl, hown5, hb5⟩
          have hown' := own_bel (hown.drew) hb5
          have hn2 : Below w1.heap.size w1 w2 := hS.trans (hb5.mono hS.size)
          go_wp2_with (at_builtin; refine wpList_app El_u8 rfl _ _ rfl hown' rfl rfl (rd_own hown5) (by simp) (cells_one _) (by unfold maxLen; omega) (by omega) hn2.size ?_; intro v6 w3 hown6 hg3 _; have hn3 : Below w1.heap.size w1 w3 := hn2.trans (own_below hown' hg3 hn2.size); obtain ⟨A6, c6, rfl, hc6⟩ := own_form hown6; have hck3 := F1 w3 hn3; have hub := HUB.out)
          refine (HZ.out _).mono ?_; rintro e w3' ⟨rfl, rfl⟩
          clear hub
          go_wp2_with fail
          refine (HP2.out _).mono ?_; rintro e w4 ⟨A7, c7, rfl, hown7, hb7⟩
          have hown'' := own_bel hown6 hb7
          have hn4 : Below w1.heap.size w1 w4 := hn3.trans (hb7.mono hn3.size)
          go_wp2_with (at_builtin; refine wpList_app El_u8 rfl _ _ rfl hown'' rfl rfl (rd_own hown7) (by simp) (cells_one _) (by unfold maxLen; omega) (by omega) hn4.size ?_; intro v8 w5 hown8 hg5 _)
          have hn5 : Below w1.heap.size w1 w5 := hn4.trans (own_below hown'' hg5 hn4.size)
          go_roundw
          case rel =>
            have hln : bs.length + e1.length + e2.length = (bs ++ (e1 ++ e2)).length := by simp only [List.length_append]; omega
            refine ⟨k + 1, 0, 0, pre ++ [(m + 1, x)], bs ++ (e1 ++ e2), by omega, by omega, rfl, by go_num, HR3.out, by simp, by rw [List.flatMap_append, ← HBS.out]; simp [HE.out], by rw [← hln]; omega, ?_, hn5⟩
            rw [← hln]
            simpa [cells] using hown8
          case measure => simp [intOf]; omega
        · have h1I : ¬ (k : Int) + 1 < (N : Int) := by omega
          have hd : decide ((k : Int) + 1 < (N : Int)) = false := by simpa using h1I
          have HD := Lib.hid hd
          clear hcell hck h1I hd
          go_wp2_with fail
          refine ah_start 17 (fun w' => Below w1.heap.size w1 w') rfl (by kernel_rfl) hnx.drew ?_
          intro hS
          (refine mv_val 0 (v := ?_) rfl (by kernel_rfl) (by kernel_rfl) (by kernel_rfl) (fun _ _ _ h => h) (by rfl) hS ?_ ?_; rotate_left; (focus (intro w hSw; (try dsimp only at hSw); (have f1 := F1 w hSw; have f3 := hlI; have f5 := HW.out; have f6 := HT.out; have f7 := hkI0; have f8 := HD.out); go_simp; first | done | with_reducible rfl)); simp only [Act.put, List.setIfInBounds_toArray, List.set_cons_zero, List.set_cons_succ])
          (refine mv_val 1 (v := ?_) rfl (by kernel_rfl) (by kernel_rfl) (by kernel_rfl) (fun _ _ _ h => h) (by rfl) hS ?_ ?_; rotate_left; (focus (intro w hSw; (try dsimp only at hSw); (have f1 := F1 w hSw; have f3 := hlI; have f5 := HW.out; have f6 := HT.out; have f7 := hkI0; have f8 := HD.out); go_simp; first | done | with_reducible rfl)); simp only [Act.put, List.setIfInBounds_toArray, List.set_cons_zero, List.set_cons_succ])
          (refine mv_val 2 (v := ?_) rfl (by kernel_rfl) (by kernel_rfl) (by kernel_rfl) (fun _ _ _ h => h) (by rfl) hS ?_ ?_; rotate_left; (focus (intro w hSw; (try dsimp only at hSw); (have f1 := F1 w hSw; have f3 := hlI; have f5 := HW.out; have f6 := HT.out; have f7 := hkI0; have f8 := HD.out); go_simp; first | done | with_reducible rfl)); simp only [Act.put, List.setIfInBounds_toArray, List.set_cons_zero, List.set_cons_succ])
          (refine mv_val 3 (v := ?_) rfl (by kernel_rfl) (by kernel_rfl) (by kernel_rfl) (fun _ _ _ h => h) (by rfl) hS ?_ ?_; rotate_left; (focus (intro w hSw; (try dsimp only at hSw); (have f1 := F1 w hSw; have f3 := hlI; have f5 := HW.out; have f6 := HT.out; have f7 := hkI0; have f8 := HD.out); go_simp; first | done | with_reducible rfl)); simp only [Act.put, List.setIfInBounds_toArray, List.set_cons_zero, List.set_cons_succ])
          (refine mv_val 4 (v := ?_) rfl (by kernel_rfl) (by kernel_rfl) (by kernel_rfl) (fun _ _ _ h => h) (by rfl) hS ?_ ?_; rotate_left; (focus (intro w hSw; (try dsimp only at hSw); (have f1 := F1 w hSw; have f3 := hlI; have f5 := HW.out; have f6 := HT.out; have f7 := hkI0; have f8 := HD.out); go_simp; first | done | with_reducible rfl)); simp only [Act.put, List.setIfInBounds_toArray, List.set_cons_zero, List.set_cons_succ])
          (refine mv_val 5 (v := ?_) rfl (by kernel_rfl) (by kernel_rfl) (by kernel_rfl) (fun _ _ _ h => h) (by rfl) hS ?_ ?_; rotate_left; (focus (intro w hSw; (try dsimp only at hSw); (have f1 := F1 w hSw; have f3 := hlI; have f5 := HW.out; have f6 := HT.out; have f7 := hkI0; have f8 := HD.out); go_simp; first | done | with_reducible rfl)); simp only [Act.put, List.setIfInBounds_toArray, List.set_cons_zero, List.set_cons_succ])
          (refine mv_skip 6 rfl (by kernel_rfl) (by kernel_rfl) (by kernel_rfl) (fun _ _ _ h => h) (by rfl) hS ?_; simp only [Act.put, List.setIfInBounds_toArray, List.set_cons_zero, List.set_cons_succ])
          (refine mv_skip 7 rfl (by kernel_rfl) (by kernel_rfl) (by kernel_rfl) (fun _ _ _ h => h) (by rfl) hS ?_; simp only [Act.put, List.setIfInBounds_toArray, List.set_cons_zero, List.set_cons_succ])
          (refine mv_skip 8 rfl (by kernel_rfl) (by kernel_rfl) (by kernel_rfl) (fun _ _ _ h => h) (by rfl) hS ?_; simp only [Act.put, List.setIfInBounds_toArray, List.set_cons_zero, List.set_cons_succ])
          (refine mv_skip 9 rfl (by kernel_rfl) (by kernel_rfl) (by kernel_rfl) (fun _ _ _ h => h) (by rfl) hS ?_; simp only [Act.put, List.setIfInBounds_toArray, List.set_cons_zero, List.set_cons_succ])
          (refine mv_skip 10 rfl (by kernel_rfl) (by kernel_rfl) (by kernel_rfl) (fun _ _ _ h => h) (by rfl) hS ?_; simp only [Act.put, List.setIfInBounds_toArray, List.set_cons_zero, List.set_cons_succ])
          (refine mv_skip 11 rfl (by kernel_rfl) (by kernel_rfl) (by kernel_rfl) (fun _ _ _ h => h) (by rfl) hS ?_; simp only [Act.put, List.setIfInBounds_toArray, List.set_cons_zero, List.set_cons_succ])
          (refine mv_skip 12 rfl (by kernel_rfl) (by kernel_rfl) (by kernel_rfl) (fun _ _ _ h => h) (by rfl) hS ?_; simp only [Act.put, List.setIfInBounds_toArray, List.set_cons_zero, List.set_cons_succ])
          (refine mv_skip 13 rfl (by kernel_rfl) (by kernel_rfl) (by kernel_rfl) (fun _ _ _ h => h) (by rfl) hS ?_; simp only [Act.put, List.setIfInBounds_toArray, List.set_cons_zero, List.set_cons_succ])
          (refine mv_skip 14 rfl (by kernel_rfl) (by kernel_rfl) (by kernel_rfl) (fun _ _ _ h => h) (by rfl) hS ?_; simp only [Act.put, List.setIfInBounds_toArray, List.set_cons_zero, List.set_cons_succ])
          (refine mv_skip 15 rfl (by kernel_rfl) (by kernel_rfl) (by kernel_rfl) (fun _ _ _ h => h) (by rfl) hS ?_; simp only [Act.put, List.setIfInBounds_toArray, List.set_cons_zero, List.set_cons_succ])
          (refine mv_val 16 (v := ?_) rfl (by kernel_rfl) (by kernel_rfl) (by kernel_rfl) (fun _ _ _ h => h) (by rfl) hS ?_ ?_; rotate_left; (focus (intro w hSw; (try dsimp only at hSw); (have f1 := F1 w hSw; have f3 := hlI; have f5 := HW.out; have f6 := HT.out; have f7 := hkI0; have f8 := HD.out); go_simp; first | done | with_reducible rfl)); simp only [Act.put, List.setIfInBounds_toArray, List.set_cons_zero, List.set_cons_succ])
          refine wpAnyH_done (by kernel_rfl) ?_ _
          go_wp2_with fail
          refine (HP1.out _).mono ?_; rintro e w2 ⟨A5, c5, rfl, hown5, hb5⟩
          have hown' := own_bel (hown.drew) hb5
          have hn2 : Below w1.heap.size w1 w2 := hS.trans (hb5.mono hS.size)
          go_wp2_with (at_builtin; refine wpList_app El_u8 rfl _ _ rfl hown' rfl rfl (rd_own hown5) (by simp) (cells_one _) (by unfold maxLen; omega) (by omega) hn2.size ?_; intro v6 w3 hown6 hg3 _; have hn3 : Below w1.heap.size w1 w3 := hn2.trans (own_below hown' hg3 hn2.size); obtain ⟨A6, c6, rfl, hc6⟩ := own_form hown6; have hck3 := F1 w3 hn3; have hub := HUB.out)
          refine (HZ.out _).mono ?_; rintro e w3' ⟨rfl, rfl⟩
          clear hub
          go_wp2_with fail
          refine (HP2.out _).mono ?_; rintro e w4 ⟨A7, c7, rfl, hown7, hb7⟩
          have hown'' := own_bel hown6 hb7
          have hn4 : Below w1.heap.size w1 w4 := hn3.trans (hb7.mono hn3.size)
          go_wp2_with (at_builtin; refine wpList_app El_u8 rfl _ _ rfl hown'' rfl rfl (rd_own hown7) (by simp) (cells_one _) (by unfold maxLen; omega) (by omega) hn4.size ?_; intro v8 w5 hown8 hg5 _)
          have hn5 : Below w1.heap.size w1 w5 := hn4.trans (own_below hown'' hg5 hn4.size)
          go_roundw
          case rel =>
            have hln : bs.length + e1.length + e2.length = (bs ++ (e1 ++ e2)).length := by simp only [List.length_append]; omega
            refine ⟨k + 1, 0, 0, pre ++ [(m + 1, x)], bs ++ (e1 ++ e2), by omega, by omega, rfl, by go_num, HR3.out, by simp, by rw [List.flatMap_append, ← HBS.out]; simp [HE.out], by rw [← hln]; omega, ?_, hn5⟩
            rw [← hln]
            simpa [cells] using hown8
          case measure => simp [intOf]; omega
    · have hkk : k = N := by omega
      have he : rl 0 0 C = pre ++ rl m ch [] := by
        rw [HR.out, List.drop_eq_nil_of_le (by rw [← HN.out]; omega)]
      have hm0 : m = 0 := by
        rcases Nat.eq_zero_or_pos m with h0 | h0
        · exact h0
        · have := HCH.out (by omega)
          rw [List.getElem?_eq_none (by rw [← HN.out]; omega)] at this
          cases this
      subst hm0
      have hfin : bs = (rl 0 0 C).flatMap enc1 := by rw [he, HBS.out]; simp [rl]
      have HF := Lib.hid hfin
      subst hkk
      clear he hfin HR HCH HBS
      go_wp2_with fail
      go_ret
      rw [← HF.out]
      exact retB_of (World.ownsRow.mono hown hz1) (hb1.trans (hnx.mono hz1))
end Go.Proofs.Ytiijnfakphhbeaa.In

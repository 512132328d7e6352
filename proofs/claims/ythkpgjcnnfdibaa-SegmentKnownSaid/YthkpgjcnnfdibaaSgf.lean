/- Joined texts: see the remark ahead of each part. No condition but those that the parts name. -/
import Derived.Test.YthkpgjcnnfdibaaSgd
/-! The walks of the reference's Same, Pieces, part, take (layer 7). No condition but sizes. -/
namespace Go.Proofs.Ythkpgjcnnfdibaa
open Go.RowKit Go.Maps
set_option linter.unusedVariables false
set_option linter.unusedSimpArgs false

set_option maxHeartbeats 2000000 in
set_option maxRecDepth 100000 in
theorem rsame_any (B : Nat) (A A' : Option Addr) (c c' : Nat) (l m : List (List V)) (w : World) (hl : RdVV w B A l) (hm : RdVV w B A' m) (hB : B ≤ w.heap.size) (hll : l.length ≤ 1000000000) (hlr : ∀ r ∈ l, r.length ≤ maxLen) :
    Calls Try.prog 14 #[.slice A l.length c, .slice A' m.length c'] w fun e w' => e = .returned (.bool (decide (l = m))) ∧ Below w.heap.size w w' := by
  by_cases hlm : l.length = m.length
  case neg =>
    have he : decide (l = m) = false := by
      simp only [decide_eq_false_iff_not]; rintro rfl; exact hlm rfl
    have HE := Lib.hid he
    have hI : ((l.length : Int) != (m.length : Int)) = true := by simp; omega
    clear he hlm
    go_enter Try.func14, Try.ntmps14
    go_wp2
    go_ret
    exact ⟨by rw [HE.out]; rfl, by go_grown⟩
  have HLM := Lib.hid hlm
  obtain ⟨n, hn⟩ : ∃ n, n = l.length := ⟨_, rfl⟩
  have hn2 : m.length = n := by omega
  rw [← hn, hn2]
  have HN := Lib.hid hn
  have HN2 := Lib.hid hn2
  have HLR := Lib.hid hlr
  rw [← hn] at hll
  clear hlm hn hn2 hlr
  go_enter Try.func14, Try.ntmps14
  go_wp2
  go_loopw [5] (fun vs wr => ∃ k : Nat, k ≤ n ∧ vs = .int .i64 k ∧ l.take k = m.take k ∧ Below w.heap.size w wr) (fun vs _ => n - (intOf vs).toNat)
  case atStart => exact ⟨0, by omega, rfl, rfl, Below.refl _ _⟩
  case round =>
    obtain ⟨k, hk, rfl, htk, hbel⟩ := hrel
    have HTK := Lib.hid htk
    clear htk
    by_cases hlt : k < n
    · have hn1 := HN.out
      have hn2 := HN2.out
      obtain ⟨x, hx⟩ : ∃ v, l[k]? = some v := ⟨_, List.getElem?_eq_getElem (by omega)⟩
      obtain ⟨y, hy⟩ : ∃ v, m[k]? = some v := ⟨_, List.getElem?_eq_getElem (by omega)⟩
      obtain ⟨gb, go, a1, c1, rfl, hgb, q0, _, hr1⟩ := rdN_at hl hx
      obtain ⟨hb, ho, a2, c2, rfl, hhb, p0, _, hr2⟩ := rdN_at hm hy
      have F1 : ∀ w', Below w.heap.size w w' → w'.cell? ⟨gb, go + k, none⟩ = some (.slice a1 x.length c1) := fun w' hb => (hb.cell (p := ⟨gb, go + k, none⟩) (by show gb < _; omega)).trans q0
      have F2 : ∀ w', Below w.heap.size w w' → w'.cell? ⟨hb, ho + k, none⟩ = some (.slice a2 y.length c2) := fun w' hbw => (hbw.cell (p := ⟨hb, ho + k, none⟩) (by show hb < _; omega)).trans p0
      have hkI : (k : Int) < (n : Int) := by omega
      have hS0 : Below w.heap.size w wr.drew := hbel.drew
      have KS := Lib.hid (Same_any B a1 a2 c1 c2 x y wr.drew (hr1.below (hS0.mono hB)) (hr2.below (hS0.mono hB)) (Nat.le_trans hB hS0.size) (HLR.out x (List.mem_of_getElem? hx)))
      have HX := Lib.hid hx
      have HY := Lib.hid hy
      clear q0 p0 hn1 hn2 hx hy hr1 hr2
      go_wp2_with fail
      refine ah_start 10 (fun w' => Below w.heap.size w w') rfl (by kernel_rfl) hS0 ?_ ; intro hS
      (refine mv_val 0 (v := ?_) rfl (by kernel_rfl) (by kernel_rfl) (by kernel_rfl) (fun _ _ _ h => h) (by rfl) hS ?_ ?_; rotate_left; (focus (intro w hSw; (try dsimp only at hSw); (have f1 := F1 w hSw; have f4 := F2 w hSw; have f7 := hlt; have f8 := hkI); go_simp; first | done | with_reducible rfl)); simp only [Act.put, List.setIfInBounds_toArray, List.set_cons_zero, List.set_cons_succ])
      (refine mv_val 1 (v := ?_) rfl (by kernel_rfl) (by kernel_rfl) (by kernel_rfl) (fun _ _ _ h => h) (by rfl) hS ?_ ?_; rotate_left; (focus (intro w hSw; (try dsimp only at hSw); (have f1 := F1 w hSw; have f4 := F2 w hSw; have f7 := hlt; have f8 := hkI); go_simp; first | done | with_reducible rfl)); simp only [Act.put, List.setIfInBounds_toArray, List.set_cons_zero, List.set_cons_succ])
      (refine mv_val 2 (v := ?_) rfl (by kernel_rfl) (by kernel_rfl) (by kernel_rfl) (fun _ _ _ h => h) (by rfl) hS ?_ ?_; rotate_left; (focus (intro w hSw; (try dsimp only at hSw); (have f1 := F1 w hSw; have f4 := F2 w hSw; have f7 := hlt; have f8 := hkI); go_simp; first | done | with_reducible rfl)); simp only [Act.put, List.setIfInBounds_toArray, List.set_cons_zero, List.set_cons_succ])
      (refine mv_val 3 (v := ?_) rfl (by kernel_rfl) (by kernel_rfl) (by kernel_rfl) (fun _ _ _ h => h) (by rfl) hS ?_ ?_; rotate_left; (focus (intro w hSw; (try dsimp only at hSw); (have f1 := F1 w hSw; have f4 := F2 w hSw; have f7 := hlt; have f8 := hkI); go_simp; first | done | with_reducible rfl)); simp only [Act.put, List.setIfInBounds_toArray, List.set_cons_zero, List.set_cons_succ])
      (refine mv_val 4 (v := ?_) rfl (by kernel_rfl) (by kernel_rfl) (by kernel_rfl) (fun _ _ _ h => h) (by rfl) hS ?_ ?_; rotate_left; (focus (intro w hSw; (try dsimp only at hSw); (have f1 := F1 w hSw; have f4 := F2 w hSw; have f7 := hlt; have f8 := hkI); go_simp; first | done | with_reducible rfl)); simp only [Act.put, List.setIfInBounds_toArray, List.set_cons_zero, List.set_cons_succ])
      (refine mv_val 5 (v := ?_) rfl (by kernel_rfl) (by kernel_rfl) (by kernel_rfl) (fun _ _ _ h => h) (by rfl) hS ?_ ?_; rotate_left; (focus (intro w hSw; (try dsimp only at hSw); (have f1 := F1 w hSw; have f4 := F2 w hSw; have f7 := hlt; have f8 := hkI); go_simp; first | done | with_reducible rfl)); simp only [Act.put, List.setIfInBounds_toArray, List.set_cons_zero, List.set_cons_succ])
      (refine mv_val 6 (v := ?_) rfl (by kernel_rfl) (by kernel_rfl) (by kernel_rfl) (fun _ _ _ h => h) (by rfl) hS ?_ ?_; rotate_left; (focus (intro w hSw; (try dsimp only at hSw); (have f1 := F1 w hSw; have f4 := F2 w hSw; have f7 := hlt; have f8 := hkI); go_simp; first | done | with_reducible rfl)); simp only [Act.put, List.setIfInBounds_toArray, List.set_cons_zero, List.set_cons_succ])
      (refine mv_val 7 (v := ?_) rfl (by kernel_rfl) (by kernel_rfl) (by kernel_rfl) (fun _ _ _ h => h) (by rfl) hS ?_ ?_; rotate_left; (focus (intro w hSw; (try dsimp only at hSw); (have f1 := F1 w hSw; have f4 := F2 w hSw; have f7 := hlt; have f8 := hkI); go_simp; first | done | with_reducible rfl)); simp only [Act.put, List.setIfInBounds_toArray, List.set_cons_zero, List.set_cons_succ])
      (refine mv_call 8 (f := ?_) (args := ?_) rfl (by kernel_rfl) (by rfl) ?_ ?_; rotate_left 2; (focus (go_simp; first | done | with_reducible rfl | (refine ⟨?_, ?_⟩ <;> with_reducible rfl))))
      refine KS.out.mono ?_; rintro e w1 ⟨rfl, hb1⟩
      have hS1 : Below w.heap.size w w1 := hS0.trans (hb1.mono hS0.size)
      refine ⟨_, rfl, hS1, ?_⟩
      replace hS := hS1
      simp only [Act.put, List.setIfInBounds_toArray, List.set_cons_zero, List.set_cons_succ]
      (refine mv_val 9 (v := ?_) rfl (by kernel_rfl) (by kernel_rfl) (by kernel_rfl) (fun _ _ _ h => h) (by rfl) hS ?_ ?_; rotate_left; (focus (intro w hSw; (try dsimp only at hSw); (have f1 := F1 w hSw; have f4 := F2 w hSw; have f7 := hlt; have f8 := hkI); go_simp; first | done | with_reducible rfl)); simp only [Act.put, List.setIfInBounds_toArray, List.set_cons_zero, List.set_cons_succ])
      refine wpAnyH_done (by kernel_rfl) ?_ _
      by_cases hxy : x = y
      · have hq : decide (x = y) = true := by simp [hxy]
        have HT2 := Lib.hid (take_more HTK.out HX.out HY.out hxy)
        rw [hq]
        clear hq hxy
        go_wp2_with fail
        go_roundw
        case rel => exact ⟨k + 1, by omega, by go_num, HT2.out, hS⟩
        case measure => simp [intOf]; omega
      · have hq : decide (x = y) = false := by simp [hxy]
        have he : decide (l = m) = false := by
          simp only [decide_eq_false_iff_not]
          rintro rfl
          exact hxy (Option.some.inj (HX.out.symm.trans HY.out))
        have HE := Lib.hid he
        rw [hq]
        clear hq hxy he
        go_wp2_with fail
        go_ret
        exact ⟨by rw [HE.out]; rfl, hS⟩
    · have hkn : k = n := by omega
      have he : decide (l = m) = true := by
        have h := HTK.out
        rw [hkn, List.take_of_length_le (by rw [← HN.out]; omega), List.take_of_length_le (by rw [HN2.out]; omega)] at h
        simp [h]
      have HE := Lib.hid he
      subst hkn
      clear he
      go_wp2_with fail
      go_ret
      exact ⟨by rw [HE.out]; rfl, hbel⟩
set_option maxHeartbeats 2000000 in
set_option maxRecDepth 100000 in
theorem rpieces_any (B : Nat) (A A' : Option Addr) (c c' : Nat) (l m : List (List UInt8)) (w : World) (hl : RdBB w B A l) (hm : RdBB w B A' m) (hB : B ≤ w.heap.size) (hll : l.length ≤ 1000000000) :
    Calls Try.prog 13 #[.slice A l.length c, .slice A' m.length c'] w fun e w' => e = .returned (.bool (decide (l = m))) ∧ Below w.heap.size w w' := by
  by_cases hlm : l.length = m.length
  case neg =>
    have he : decide (l = m) = false := by
      simp only [decide_eq_false_iff_not]; rintro rfl; exact hlm rfl
    have HE := Lib.hid he
    have hI : ((l.length : Int) != (m.length : Int)) = true := by simp; omega
    clear he hlm
    go_enter Try.func13, Try.ntmps13
    go_wp2
    go_ret
    exact ⟨by rw [HE.out]; rfl, by go_grown⟩
  have HLM := Lib.hid hlm
  obtain ⟨n, hn⟩ : ∃ n, n = l.length := ⟨_, rfl⟩
  have hn2 : m.length = n := by omega
  rw [← hn, hn2]
  have HN := Lib.hid hn
  have HN2 := Lib.hid hn2
  rw [← hn] at hll
  clear hlm hn hn2
  go_enter Try.func13, Try.ntmps13
  go_wp2
  go_loopw [5] (fun vs wr => ∃ k : Nat, k ≤ n ∧ vs = .int .i64 k ∧ l.take k = m.take k ∧ Below w.heap.size w wr) (fun vs _ => n - (intOf vs).toNat)
  case atStart => exact ⟨0, by omega, rfl, rfl, Below.refl _ _⟩
  case round =>
    obtain ⟨k, hk, rfl, htk, hbel⟩ := hrel
    have HTK := Lib.hid htk
    clear htk
    by_cases hlt : k < n
    · have hn1 := HN.out
      have hn2 := HN2.out
      obtain ⟨x, hx⟩ : ∃ v, l[k]? = some v := ⟨_, List.getElem?_eq_getElem (by omega)⟩
      obtain ⟨y, hy⟩ : ∃ v, m[k]? = some v := ⟨_, List.getElem?_eq_getElem (by omega)⟩
      obtain ⟨gb, go, a1, c1, rfl, hgb, q0, _, hr1⟩ := rdN_at hl hx
      obtain ⟨hb, ho, a2, c2, rfl, hhb, p0, _, hr2⟩ := rdN_at hm hy
      have F1 : ∀ w', Below w.heap.size w w' → w'.cell? ⟨gb, go + k, none⟩ = some (.slice a1 x.length c1) := fun w' hb => (hb.cell (p := ⟨gb, go + k, none⟩) (by show gb < _; omega)).trans q0
      have F2 : ∀ w', Below w.heap.size w w' → w'.cell? ⟨hb, ho + k, none⟩ = some (.slice a2 y.length c2) := fun w' hbw => (hbw.cell (p := ⟨hb, ho + k, none⟩) (by show hb < _; omega)).trans p0
      have F3 : ∀ w', Below w.heap.size w w' → (convert 22 9 (.slice a1 x.length c1)).run Try.prog w' = .ok (.string ⟨x.toArray⟩) w' := fun w' h => conv_rd (hr1.below (h.mono hB)) c1
      have F4 : ∀ w', Below w.heap.size w w' → (convert 22 9 (.slice a2 y.length c2)).run Try.prog w' = .ok (.string ⟨y.toArray⟩) w' := fun w' h => conv_rd (hr2.below (h.mono hB)) c2
      have hkI : (k : Int) < (n : Int) := by omega
      have hS0 : Below w.heap.size w wr.drew := hbel.drew
      have HX := Lib.hid hx
      have HY := Lib.hid hy
      clear q0 p0 hn1 hn2 hx hy hr1 hr2
      go_wp2_with fail
      refine ah_start 11 (fun w' => Below w.heap.size w w') rfl (by kernel_rfl) hS0 ?_ ; intro hS
      (refine mv_val 0 (v := ?_) rfl (by kernel_rfl) (by kernel_rfl) (by kernel_rfl) (fun _ _ _ h => h) (by rfl) hS ?_ ?_; rotate_left; (focus (intro w hSw; (try dsimp only at hSw); (have f1 := F1 w hSw; have f4 := F2 w hSw; have f5 := F3 w hSw; have f6 := F4 w hSw; have f7 := hlt; have f8 := hkI); go_simp; first | done | with_reducible rfl)); simp only [Act.put, List.setIfInBounds_toArray, List.set_cons_zero, List.set_cons_succ])
      (refine mv_val 1 (v := ?_) rfl (by kernel_rfl) (by kernel_rfl) (by kernel_rfl) (fun _ _ _ h => h) (by rfl) hS ?_ ?_; rotate_left; (focus (intro w hSw; (try dsimp only at hSw); (have f1 := F1 w hSw; have f4 := F2 w hSw; have f5 := F3 w hSw; have f6 := F4 w hSw; have f7 := hlt; have f8 := hkI); go_simp; first | done | with_reducible rfl)); simp only [Act.put, List.setIfInBounds_toArray, List.set_cons_zero, List.set_cons_succ])
      (refine mv_val 2 (v := ?_) rfl (by kernel_rfl) (by kernel_rfl) (by kernel_rfl) (fun _ _ _ h => h) (by rfl) hS ?_ ?_; rotate_left; (focus (intro w hSw; (try dsimp only at hSw); (have f1 := F1 w hSw; have f4 := F2 w hSw; have f5 := F3 w hSw; have f6 := F4 w hSw; have f7 := hlt; have f8 := hkI); go_simp; first | done | with_reducible rfl)); simp only [Act.put, List.setIfInBounds_toArray, List.set_cons_zero, List.set_cons_succ])
      (refine mv_val 3 (v := ?_) rfl (by kernel_rfl) (by kernel_rfl) (by kernel_rfl) (fun _ _ _ h => h) (by rfl) hS ?_ ?_; rotate_left; (focus (intro w hSw; (try dsimp only at hSw); (have f1 := F1 w hSw; have f4 := F2 w hSw; have f5 := F3 w hSw; have f6 := F4 w hSw; have f7 := hlt; have f8 := hkI); go_simp; first | done | with_reducible rfl)); simp only [Act.put, List.setIfInBounds_toArray, List.set_cons_zero, List.set_cons_succ])
      (refine mv_val 4 (v := ?_) rfl (by kernel_rfl) (by kernel_rfl) (by kernel_rfl) (fun _ _ _ h => h) (by rfl) hS ?_ ?_; rotate_left; (focus (intro w hSw; (try dsimp only at hSw); (have f1 := F1 w hSw; have f4 := F2 w hSw; have f5 := F3 w hSw; have f6 := F4 w hSw; have f7 := hlt; have f8 := hkI); go_simp; first | done | with_reducible rfl)); simp only [Act.put, List.setIfInBounds_toArray, List.set_cons_zero, List.set_cons_succ])
      (refine mv_val 5 (v := ?_) rfl (by kernel_rfl) (by kernel_rfl) (by kernel_rfl) (fun _ _ _ h => h) (by rfl) hS ?_ ?_; rotate_left; (focus (intro w hSw; (try dsimp only at hSw); (have f1 := F1 w hSw; have f4 := F2 w hSw; have f5 := F3 w hSw; have f6 := F4 w hSw; have f7 := hlt; have f8 := hkI); go_simp; first | done | with_reducible rfl)); simp only [Act.put, List.setIfInBounds_toArray, List.set_cons_zero, List.set_cons_succ])
      (refine mv_val 6 (v := ?_) rfl (by kernel_rfl) (by kernel_rfl) (by kernel_rfl) (fun _ _ _ h => h) (by rfl) hS ?_ ?_; rotate_left; (focus (intro w hSw; (try dsimp only at hSw); (have f1 := F1 w hSw; have f4 := F2 w hSw; have f5 := F3 w hSw; have f6 := F4 w hSw; have f7 := hlt; have f8 := hkI); go_simp; first | done | with_reducible rfl)); simp only [Act.put, List.setIfInBounds_toArray, List.set_cons_zero, List.set_cons_succ])
      (refine mv_val 7 (v := ?_) rfl (by kernel_rfl) (by kernel_rfl) (by kernel_rfl) (fun _ _ _ h => h) (by rfl) hS ?_ ?_; rotate_left; (focus (intro w hSw; (try dsimp only at hSw); (have f1 := F1 w hSw; have f4 := F2 w hSw; have f5 := F3 w hSw; have f6 := F4 w hSw; have f7 := hlt; have f8 := hkI); go_simp; first | done | with_reducible rfl)); simp only [Act.put, List.setIfInBounds_toArray, List.set_cons_zero, List.set_cons_succ])
      (refine mv_val 8 (v := ?_) rfl (by kernel_rfl) (by kernel_rfl) (by kernel_rfl) (fun _ _ _ h => h) (by rfl) hS ?_ ?_; rotate_left; (focus (intro w hSw; (try dsimp only at hSw); (have f1 := F1 w hSw; have f4 := F2 w hSw; have f5 := F3 w hSw; have f6 := F4 w hSw; have f7 := hlt; have f8 := hkI); go_simp; first | done | with_reducible rfl)); simp only [Act.put, List.setIfInBounds_toArray, List.set_cons_zero, List.set_cons_succ])
      (refine mv_val 9 (v := ?_) rfl (by kernel_rfl) (by kernel_rfl) (by kernel_rfl) (fun _ _ _ h => h) (by rfl) hS ?_ ?_; rotate_left; (focus (intro w hSw; (try dsimp only at hSw); (have f1 := F1 w hSw; have f4 := F2 w hSw; have f5 := F3 w hSw; have f6 := F4 w hSw; have f7 := hlt; have f8 := hkI); go_simp; first | done | with_reducible rfl)); simp only [Act.put, List.setIfInBounds_toArray, List.set_cons_zero, List.set_cons_succ])
      (refine mv_val 10 (v := ?_) rfl (by kernel_rfl) (by kernel_rfl) (by kernel_rfl) (fun _ _ _ h => h) (by rfl) hS ?_ ?_; rotate_left; (focus (intro w hSw; (try dsimp only at hSw); (have f1 := F1 w hSw; have f4 := F2 w hSw; have f5 := F3 w hSw; have f6 := F4 w hSw; have f7 := hlt; have f8 := hkI); go_simp; first | done | with_reducible rfl)); simp only [Act.put, List.setIfInBounds_toArray, List.set_cons_zero, List.set_cons_succ])
      refine wpAnyH_done (by kernel_rfl) ?_ _
      by_cases hxy : x = y
      · have hq : (x == y) = true := by simp [hxy]
        have HT2 := Lib.hid (take_more HTK.out HX.out HY.out hxy)
        rw [hq]
        clear hq hxy
        go_wp2_with fail
        go_roundw
        case rel => exact ⟨k + 1, by omega, by go_num, HT2.out, hS⟩
        case measure => simp [intOf]; omega
      · have hq : (x == y) = false := by simp [hxy]
        have he : decide (l = m) = false := by
          simp only [decide_eq_false_iff_not]
          rintro rfl
          exact hxy (Option.some.inj (HX.out.symm.trans HY.out))
        have HE := Lib.hid he
        rw [hq]
        clear hq hxy he
        go_wp2_with fail
        go_ret
        exact ⟨by rw [HE.out]; rfl, hS⟩
    · have hkn : k = n := by omega
      have he : decide (l = m) = true := by
        have h := HTK.out
        rw [hkn, List.take_of_length_le (by rw [← HN.out]; omega), List.take_of_length_le (by rw [HN2.out]; omega)] at h
        simp [h]
      have HE := Lib.hid he
      subst hkn
      clear he
      go_wp2_with fail
      go_ret
      exact ⟨by rw [HE.out]; rfl, hbel⟩
set_option maxRecDepth 100000 in
theorem rpart7_any (B : Nat) (A : Option Addr) (c : Nat) (p : List UInt8) (w : World) (hp : Rd w B A (cells p)) (hB : B ≤ w.heap.size) (hl : p.length ≤ 4200000000) :
    Calls Try.prog 59 #[.slice A p.length c] w (RetB w (part1 p)) := by
  have H0 := Lib.hid (rPut_any p.length (by omega) w)
  have hv := vput_length64 (show p.length < 18446744073709551616 by omega)
  have hw : IntKind.u64.wrap (p.length : Int) = (p.length : Int) := by rw [IntKind.wrap_u64]; omega
  have hcl : (cells p).length = p.length * 1 := by simp
  have HX := Lib.hid (show part1 p = vput p.length ++ p from rfl)
  have hpp := fun w' (h : Below w.heap.size w w') => hp.below (h.mono hB)
  obtain ⟨X, hX⟩ : ∃ X, X = vput p.length := ⟨_, rfl⟩
  rw [← hX] at H0 HX hv
  clear hp hX
  go_enter Try.func59, Try.ntmps59
  go_wp2_with fail
  refine H0.out.mono ?_; rintro e w1 ⟨A1, c1, rfl, hown1, hb1⟩
  have hp1 := hpp w1 hb1
  go_wp2_with (at_builtin; refine wpList_app El_u8 rfl _ _ rfl hown1 rfl rfl hp1 hcl (cells_one p) (by unfold maxLen; omega) (by omega) hb1.size ?_; intro v2 w2 hown2 hg2 _)
  have hb2 := hb1.trans (own_below hown1 hg2 hb1.size)
  go_ret
  rw [HX.out]
  rw [← List.length_append, ← cells_append] at hown2
  exact retB_of hown2 hb2
/-- What take leaves. -/
def RetTake (w : World) (B : Nat) (b : List UInt8) (e : Ending) (w' : World) : Prop :=
  ∃ A1 c1 A2 c2, e = .returned (.tuple #[.slice A1 (rpart b).1.length c1, .slice A2 (rpart b).2.1.length c2, .int .i64 ((rpart b).2.2 : Int)]) ∧ Rd w' B A1 (cells (rpart b).1) ∧ (rpart b).1.length ≤ c1 ∧ Rd w' B A2 (cells (rpart b).2.1) ∧ (rpart b).2.1.length ≤ c2 ∧ Below w.heap.size w w'
set_option maxHeartbeats 2000000 in
set_option maxRecDepth 100000 in
theorem rtake_any (B : Nat) (A : Option Addr) (c : Nat) (b : List UInt8) (w : World) (hr : Rd w B A (cells b)) (hc : b.length ≤ c) (hl : b.length ≤ 4000000000) :
    Calls Try.prog 39 #[.slice A b.length c] w (RetTake w B b) := by
  have G := rGet_any B A c b w hr (by omega)
  have hkl := vget_val b
  by_cases h0 : (vget b).2.2 = 0
  case neg =>
    have hp : rpart b = ([], [], (vget b).2.2) := by unfold rpart; rw [if_pos h0]
    have HP := Lib.hid hp
    obtain ⟨⟨n, k, e⟩, hv⟩ : ∃ r, r = vget b := ⟨_, rfl⟩
    rw [← hv] at G h0 HP
    dsimp only at h0 HP
    have HG := Lib.hid G
    have hne : ((e : Int) != 0) = true := by simp; omega
    clear G hv hp h0 hkl hr
    go_enter Try.func39, Try.ntmps39
    go_wp2_with fail
    refine HG.out.mono ?_; rintro e1 w1 ⟨rfl, hq⟩
    subst hq
    go_wp2_with fail
    go_ret3
    unfold RetTake
    rw [HP.out]
    exact ⟨none, 0, none, 0, rfl, .inl rfl, by simp, .inl rfl, by simp, Below.refl _ _⟩
  by_cases h1 : (b.drop (vget b).2.1).length < (vget b).1
  case pos =>
    have hp : rpart b = ([], [], 20) := by unfold rpart; rw [if_neg (by simp [h0]), if_pos h1]
    have HP := Lib.hid hp
    obtain ⟨⟨n, k, e⟩, hv⟩ : ∃ r, r = vget b := ⟨_, rfl⟩
    rw [← hv] at G h0 h1 hkl
    dsimp only at h0 h1 hkl
    subst h0
    rw [List.length_drop] at h1
    have HG := Lib.hid G
    have hw1 : IntKind.i64.wrap ((b.length : Int) - (k : Int)) = (b.length : Int) - (k : Int) := by rw [IntKind.wrap_i64]; omega
    have hw2 : IntKind.u64.wrap ((b.length : Int) - (k : Int)) = (b.length : Int) - (k : Int) := by rw [IntKind.wrap_u64]; omega
    have hlt : (b.length : Int) - (k : Int) < (n : Int) := by omega
    clear G hv hp hkl hr h1
    go_enter Try.func39, Try.ntmps39
    go_wp2_with fail
    refine HG.out.mono ?_; rintro e1 w1 ⟨rfl, hq⟩
    subst hq
    go_wp2_with fail
    go_ret3
    unfold RetTake
    rw [HP.out]
    exact ⟨none, 0, none, 0, rfl, .inl rfl, by simp, .inl rfl, by simp, Below.refl _ _⟩
  have hp : rpart b = ((b.drop (vget b).2.1).take (vget b).1, (b.drop (vget b).2.1).drop (vget b).1, 0) := by unfold rpart; rw [if_neg (by simp [h0]), if_neg h1]
  have HP := Lib.hid hp
  obtain ⟨⟨n, k, e⟩, hv⟩ : ∃ r, r = vget b := ⟨_, rfl⟩
  rw [← hv] at G h0 h1 hkl HP
  dsimp only at h0 h1 hkl HP
  subst h0
  rw [List.length_drop] at h1
  obtain ⟨A1, c1, e1, r1, l1⟩ := mid_any c k (k + n) (by omega) (by omega) hc hr
  obtain ⟨A2, c2, e2, r2, l2⟩ := from_any c (k + n) (by omega) hc hr
  rw [show k + n - k = n by omega] at e1 r1 l1
  rw [← List.drop_drop] at e2 r2 l2
  have f1 := fun w' => e1 w' (k : Int) ((k : Int) + (n : Int)) rfl (by omega)
  have f2 := fun w' => e2 w' ((k : Int) + (n : Int)) (by omega)
  obtain ⟨x, hx⟩ : ∃ x, x = (b.drop k).take n := ⟨_, rfl⟩
  obtain ⟨y, hy⟩ : ∃ y, y = (b.drop k).drop n := ⟨_, rfl⟩
  rw [← hx] at f1 r1 l1 HP
  rw [← hy] at f2 r2 l2 HP
  have HG := Lib.hid G
  have R1 := Lib.hid r1
  have R2 := Lib.hid r2
  have hw1 : IntKind.i64.wrap ((b.length : Int) - (k : Int)) = (b.length : Int) - (k : Int) := by rw [IntKind.wrap_i64]; omega
  have hw2 : IntKind.u64.wrap ((b.length : Int) - (k : Int)) = (b.length : Int) - (k : Int) := by rw [IntKind.wrap_u64]; omega
  have hw3 : IntKind.i64.wrap (n : Int) = (n : Int) := by rw [IntKind.wrap_i64]; omega
  have hw4 : IntKind.i64.wrap ((k : Int) + (n : Int)) = (k : Int) + (n : Int) := by rw [IntKind.wrap_i64]; omega
  have hlt : ¬ (b.length : Int) - (k : Int) < (n : Int) := by omega
  clear G hv hp hkl hr h1 hx hy e1 e2 r1 r2
  go_enter Try.func39, Try.ntmps39
  go_wp2_with fail
  refine HG.out.mono ?_; rintro e1 w1 ⟨rfl, hq⟩
  subst hq
  go_wp2_with fail
  refine ah_start 16 (fun w' => Below w.heap.size w w') rfl (by kernel_rfl) (Below.refl _ _).drew ?_ ; intro hS
  (refine mv_val 0 (v := ?_) rfl (by kernel_rfl) (by kernel_rfl) (by kernel_rfl) (fun _ _ _ h => h) (by rfl) hS ?_ ?_; rotate_left; (focus (intro w hSw; (try dsimp only at hSw); (have f3 := f1 w; have f4 := f2 w; have f5 := hw3; have f6 := hw4); go_simp; first | done | with_reducible rfl)); simp only [Act.put, List.setIfInBounds_toArray, List.set_cons_zero, List.set_cons_succ])
  (refine mv_val 1 (v := ?_) rfl (by kernel_rfl) (by kernel_rfl) (by kernel_rfl) (fun _ _ _ h => h) (by rfl) hS ?_ ?_; rotate_left; (focus (intro w hSw; (try dsimp only at hSw); (have f3 := f1 w; have f4 := f2 w; have f5 := hw3; have f6 := hw4); go_simp; first | done | with_reducible rfl)); simp only [Act.put, List.setIfInBounds_toArray, List.set_cons_zero, List.set_cons_succ])
  (refine mv_val 2 (v := ?_) rfl (by kernel_rfl) (by kernel_rfl) (by kernel_rfl) (fun _ _ _ h => h) (by rfl) hS ?_ ?_; rotate_left; (focus (intro w hSw; (try dsimp only at hSw); (have f3 := f1 w; have f4 := f2 w; have f5 := hw3; have f6 := hw4); go_simp; first | done | with_reducible rfl)); simp only [Act.put, List.setIfInBounds_toArray, List.set_cons_zero, List.set_cons_succ])
  (refine mv_val 3 (v := ?_) rfl (by kernel_rfl) (by kernel_rfl) (by kernel_rfl) (fun _ _ _ h => h) (by rfl) hS ?_ ?_; rotate_left; (focus (intro w hSw; (try dsimp only at hSw); (have f3 := f1 w; have f4 := f2 w; have f5 := hw3; have f6 := hw4); go_simp; first | done | with_reducible rfl)); simp only [Act.put, List.setIfInBounds_toArray, List.set_cons_zero, List.set_cons_succ])
  (refine mv_val 4 (v := ?_) rfl (by kernel_rfl) (by kernel_rfl) (by kernel_rfl) (fun _ _ _ h => h) (by rfl) hS ?_ ?_; rotate_left; (focus (intro w hSw; (try dsimp only at hSw); (have f3 := f1 w; have f4 := f2 w; have f5 := hw3; have f6 := hw4); go_simp; first | done | with_reducible rfl)); simp only [Act.put, List.setIfInBounds_toArray, List.set_cons_zero, List.set_cons_succ])
  (refine mv_val 5 (v := ?_) rfl (by kernel_rfl) (by kernel_rfl) (by kernel_rfl) (fun _ _ _ h => h) (by rfl) hS ?_ ?_; rotate_left; (focus (intro w hSw; (try dsimp only at hSw); (have f3 := f1 w; have f4 := f2 w; have f5 := hw3; have f6 := hw4); go_simp; first | done | with_reducible rfl)); simp only [Act.put, List.setIfInBounds_toArray, List.set_cons_zero, List.set_cons_succ])
  (refine mv_val 6 (v := ?_) rfl (by kernel_rfl) (by kernel_rfl) (by kernel_rfl) (fun _ _ _ h => h) (by rfl) hS ?_ ?_; rotate_left; (focus (intro w hSw; (try dsimp only at hSw); (have f3 := f1 w; have f4 := f2 w; have f5 := hw3; have f6 := hw4); go_simp; first | done | with_reducible rfl)); simp only [Act.put, List.setIfInBounds_toArray, List.set_cons_zero, List.set_cons_succ])
  (refine mv_val 7 (v := ?_) rfl (by kernel_rfl) (by kernel_rfl) (by kernel_rfl) (fun _ _ _ h => h) (by rfl) hS ?_ ?_; rotate_left; (focus (intro w hSw; (try dsimp only at hSw); (have f3 := f1 w; have f4 := f2 w; have f5 := hw3; have f6 := hw4); go_simp; first | done | with_reducible rfl)); simp only [Act.put, List.setIfInBounds_toArray, List.set_cons_zero, List.set_cons_succ])
  (refine mv_val 8 (v := ?_) rfl (by kernel_rfl) (by kernel_rfl) (by kernel_rfl) (fun _ _ _ h => h) (by rfl) hS ?_ ?_; rotate_left; (focus (intro w hSw; (try dsimp only at hSw); (have f3 := f1 w; have f4 := f2 w; have f5 := hw3; have f6 := hw4); go_simp; first | done | with_reducible rfl)); simp only [Act.put, List.setIfInBounds_toArray, List.set_cons_zero, List.set_cons_succ])
  (refine mv_val 9 (v := ?_) rfl (by kernel_rfl) (by kernel_rfl) (by kernel_rfl) (fun _ _ _ h => h) (by rfl) hS ?_ ?_; rotate_left; (focus (intro w hSw; (try dsimp only at hSw); (have f3 := f1 w; have f4 := f2 w; have f5 := hw3; have f6 := hw4); go_simp; first | done | with_reducible rfl)); simp only [Act.put, List.setIfInBounds_toArray, List.set_cons_zero, List.set_cons_succ])
  (refine mv_val 10 (v := ?_) rfl (by kernel_rfl) (by kernel_rfl) (by kernel_rfl) (fun _ _ _ h => h) (by rfl) hS ?_ ?_; rotate_left; (focus (intro w hSw; (try dsimp only at hSw); (have f3 := f1 w; have f4 := f2 w; have f5 := hw3; have f6 := hw4); go_simp; first | done | with_reducible rfl)); simp only [Act.put, List.setIfInBounds_toArray, List.set_cons_zero, List.set_cons_succ])
  (refine mv_val 11 (v := ?_) rfl (by kernel_rfl) (by kernel_rfl) (by kernel_rfl) (fun _ _ _ h => h) (by rfl) hS ?_ ?_; rotate_left; (focus (intro w hSw; (try dsimp only at hSw); (have f3 := f1 w; have f4 := f2 w; have f5 := hw3; have f6 := hw4); go_simp; first | done | with_reducible rfl)); simp only [Act.put, List.setIfInBounds_toArray, List.set_cons_zero, List.set_cons_succ])
  (refine mv_val 12 (v := ?_) rfl (by kernel_rfl) (by kernel_rfl) (by kernel_rfl) (fun _ _ _ h => h) (by rfl) hS ?_ ?_; rotate_left; (focus (intro w hSw; (try dsimp only at hSw); (have f3 := f1 w; have f4 := f2 w; have f5 := hw3; have f6 := hw4); go_simp; first | done | with_reducible rfl)); simp only [Act.put, List.setIfInBounds_toArray, List.set_cons_zero, List.set_cons_succ])
  (refine mv_val 13 (v := ?_) rfl (by kernel_rfl) (by kernel_rfl) (by kernel_rfl) (fun _ _ _ h => h) (by rfl) hS ?_ ?_; rotate_left; (focus (intro w hSw; (try dsimp only at hSw); (have f3 := f1 w; have f4 := f2 w; have f5 := hw3; have f6 := hw4); go_simp; first | done | with_reducible rfl)); simp only [Act.put, List.setIfInBounds_toArray, List.set_cons_zero, List.set_cons_succ])
  (refine mv_val 14 (v := ?_) rfl (by kernel_rfl) (by kernel_rfl) (by kernel_rfl) (fun _ _ _ h => h) (by rfl) hS ?_ ?_; rotate_left; (focus (intro w hSw; (try dsimp only at hSw); (have f3 := f1 w; have f4 := f2 w; have f5 := hw3; have f6 := hw4); go_simp; first | done | with_reducible rfl)); simp only [Act.put, List.setIfInBounds_toArray, List.set_cons_zero, List.set_cons_succ])
  (refine mv_val 15 (v := ?_) rfl (by kernel_rfl) (by kernel_rfl) (by kernel_rfl) (fun _ _ _ h => h) (by rfl) hS ?_ ?_; rotate_left; (focus (intro w hSw; (try dsimp only at hSw); (have f3 := f1 w; have f4 := f2 w; have f5 := hw3; have f6 := hw4); go_simp; first | done | with_reducible rfl)); simp only [Act.put, List.setIfInBounds_toArray, List.set_cons_zero, List.set_cons_succ])
  refine wpAnyH_done (by kernel_rfl) ?_ _
  go_wp2_with fail
  go_ret3
  unfold RetTake
  rw [HP.out]
  exact ⟨A1, c1, A2, c2, rfl, R1.out, l1, R2.out, l2, hS⟩
end Go.Proofs.Ythkpgjcnnfdibaa

/-! The walks of the law's ownRows, ownPieces, long, heavy, may (layer 7). No condition but sizes. Printed by gen_sgw.py. -/
namespace Go.Proofs.Ythkpgjcnnfdibaa
open Go.RowKit Go.Maps
set_option linter.unusedVariables false
set_option linter.unusedSimpArgs false

/-- What a call that answers pieces leaves. -/
def RetBB (w : World) (l : List (List UInt8)) (e : Ending) (w' : World) : Prop :=
  ∃ A c, e = .returned (.slice A l.length c) ∧ OwnBB w' w.heap.size (.slice A l.length c) l ∧ Below w.heap.size w w'
theorem retBB_of {w w' : World} {l : List (List UInt8)} {v : Value} (h : OwnBB w' w.heap.size v l) (hb : Below w.heap.size w w') : RetBB w l (.returned v) w' := by
  obtain ⟨A, c, rfl, _⟩ := h.form
  exact ⟨A, c, rfl, h, hb⟩
set_option maxHeartbeats 2000000 in
set_option maxRecDepth 100000 in
theorem ownRows_any (B : Nat) (A : Option Addr) (c : Nat) (l : List (List V)) (w : World) (hr : RdVV w B A l) (hB : B ≤ w.heap.size) (hl : l.length ≤ 1000000) (hlr : ∀ r ∈ l, r.length ≤ 1000000) :
    Calls Try.prog 10 #[.slice A l.length c] w (RetVV w l) := by
  obtain ⟨by_, HEL, hby⟩ := El_val
  have HLR := Lib.hid hlr
  clear hlr
  go_enter Try.func10, Try.ntmps10
  go_wp2_with fail
  go_loopw [3, 4] (fun v3 v4 wr => ∃ k : Nat, k ≤ l.length ∧ v4 = .int .i64 k ∧ OwnVV wr w.heap.size v3 (l.take k) ∧ Below w.heap.size w wr) (fun _ v4 _ => l.length - (intOf v4).toNat)
  case atStart => exact ⟨0, by omega, rfl, OwnN.nil _ _, Below.refl _ _⟩
  case round =>
    obtain ⟨k, hk, rfl, hown, hbel⟩ := hrel
    obtain ⟨A3, c3, rfl, hc3⟩ := hown.form
    have hlk : (l.take k).length = k := by rw [List.length_take]; omega
    rw [hlk] at hown ⊢
    have HO := Lib.hid hown
    have HLK := Lib.hid hlk
    have hbs := hbel.size
    clear hown hlk hc3
    by_cases hlt : k < l.length
    case neg =>
      have hkk : k = l.length := by omega
      have hge : (l.length : Int) ≤ (k : Int) := by omega
      have HF := Lib.hid (show OwnVV wr w.heap.size (.slice A3 l.length c3) l by have h := HO.out; rw [hkk, List.take_length] at h; exact h)
      rw [hkk]
      clear hkk HO HLK
      go_wp2_with fail
      go_ret
      exact retVV_of HF.out hbel
    obtain ⟨x, hx⟩ : ∃ x, l[k]? = some x := ⟨_, List.getElem?_eq_getElem hlt⟩
    have hxl := HLR.out x (List.mem_of_getElem? hx)
    obtain ⟨ga, oa, a1, ca, rfl, hga, q0, hca, hra⟩ := rdN_at hr hx
    have q1 := (hbel.cell (p := ⟨ga, oa + k, none⟩) (by show ga < _; omega)).trans q0
    have q2 := cell_al q1 (by show ga < _; omega) (.cells #[] 46)
    have r1 : Rd (wr.alloc (.cells #[] 46)) (wr.heap.size + 1) a1 (vcells x) := ((hra.below (hbel.mono hB)).alloc (by omega) _).more (by omega)
    have hkI : (k : Int) < (l.length : Int) := by omega
    have HTK := Lib.hid (show l.take (k + 1) = l.take k ++ [x] by rw [List.take_add_one, hx]; rfl)
    have hk6 : k ≤ 1000000 := by omega
    clear q0 hra hx hlt
    go_wp2_with (first
      | (at_builtin; refine wpList_app HEL rfl _ _ rfl (lit0_val wr) rfl rfl (by exact r1) (vcells_length x) (vcells_one x) (by unfold maxLen; omega) (by have : (0 + x.length) * by_ ≤ 1000000 * 64 := Nat.mul_le_mul (by omega) hby; omega) (by simp) ?_; intro v4 w4 hown4 hg4 _; rw [Nat.zero_add, List.nil_append] at hown4; obtain ⟨A4, c4, rfl, hc4⟩ := own_form hown4; have hb4 : Below wr.heap.size wr w4 := ((Below.refl _ wr).alloc (Nat.le_refl _) _).trans (own_below (lit0_val wr) hg4 (by simp)); obtain ⟨ss, own5, hssl, happ⟩ := OwnN.app (s := (A4, x.length, c4)) (b := x) (by decide) HO.out hb4 hbs rfl hown4 (.cells #[.slice A4 x.length c4] 37); have HAPP := Lib.hid happ; have HSSL := Lib.hid hssl; have hssm : ss.length ≤ 1000000 := Nat.le_trans (Nat.le_of_eq (hssl.trans HLK.out)) hk6; clear happ hssl hown4 hg4)
      | (at_builtin; refine wpList_app El_vs rfl _ _ rfl own5 rfl rfl (by exact rd_one _ _ _ _ _ rfl (Nat.lt_add_one _)) rfl (by intro u hu; simp at hu; subst hu; rfl) (by unfold maxLen; omega) (by omega) (by have := hb4.size; simp; omega) ?_; intro v6 w6 hown6 hg6 _))
    have hb6 : Below w.heap.size w w6 := ((hbel.trans (hb4.mono hbs)).alloc (by have := hb4.size; omega) _).trans (own_below own5 hg6 (by have := hb4.size; simp; omega))
    go_roundw
    case rel => exact ⟨k + 1, by omega, by go_num, by rw [HTK.out]; exact HAPP.out w6 _ hown6 hg6, hb6⟩
    case measure => simp [intOf]; omega
set_option maxHeartbeats 2000000 in
set_option maxRecDepth 100000 in
theorem ownPieces_any (B : Nat) (A : Option Addr) (c : Nat) (l : List (List UInt8)) (w : World) (hr : RdBB w B A l) (hB : B ≤ w.heap.size) (hl : l.length ≤ 1000000) (hlr : ∀ r ∈ l, r.length ≤ 1000000) :
    Calls Try.prog 17 #[.slice A l.length c] w (RetBB w l) := by
  obtain ⟨by_, HEL, hby⟩ := (show ∃ by_, El Try.prog 22 5 1 by_ ∧ by_ ≤ 64 from ⟨1, El_u8, by omega⟩)
  have HLR := Lib.hid hlr
  clear hlr
  go_enter Try.func17, Try.ntmps17
  go_wp2_with fail
  go_loopw [3, 4] (fun v3 v4 wr => ∃ k : Nat, k ≤ l.length ∧ v4 = .int .i64 k ∧ OwnBB wr w.heap.size v3 (l.take k) ∧ Below w.heap.size w wr) (fun _ v4 _ => l.length - (intOf v4).toNat)
  case atStart => exact ⟨0, by omega, rfl, OwnN.nil _ _, Below.refl _ _⟩
  case round =>
    obtain ⟨k, hk, rfl, hown, hbel⟩ := hrel
    obtain ⟨A3, c3, rfl, hc3⟩ := hown.form
    have hlk : (l.take k).length = k := by rw [List.length_take]; omega
    rw [hlk] at hown ⊢
    have HO := Lib.hid hown
    have HLK := Lib.hid hlk
    have hbs := hbel.size
    clear hown hlk hc3
    by_cases hlt : k < l.length
    case neg =>
      have hkk : k = l.length := by omega
      have hge : (l.length : Int) ≤ (k : Int) := by omega
      have HF := Lib.hid (show OwnBB wr w.heap.size (.slice A3 l.length c3) l by have h := HO.out; rw [hkk, List.take_length] at h; exact h)
      rw [hkk]
      clear hkk HO HLK
      go_wp2_with fail
      go_ret
      exact retBB_of HF.out hbel
    obtain ⟨x, hx⟩ : ∃ x, l[k]? = some x := ⟨_, List.getElem?_eq_getElem hlt⟩
    have hxl := HLR.out x (List.mem_of_getElem? hx)
    obtain ⟨ga, oa, a1, ca, rfl, hga, q0, hca, hra⟩ := rdN_at hr hx
    have q1 := (hbel.cell (p := ⟨ga, oa + k, none⟩) (by show ga < _; omega)).trans q0
    have q2 := cell_al q1 (by show ga < _; omega) (.cells #[] 5)
    have r1 : Rd (wr.alloc (.cells #[] 5)) (wr.heap.size + 1) a1 (cells x) := ((hra.below (hbel.mono hB)).alloc (by omega) _).more (by omega)
    have hkI : (k : Int) < (l.length : Int) := by omega
    have HTK := Lib.hid (show l.take (k + 1) = l.take k ++ [x] by rw [List.take_add_one, hx]; rfl)
    have hk6 : k ≤ 1000000 := by omega
    clear q0 hra hx hlt
    go_wp2_with (first
      | (at_builtin; refine wpList_app HEL rfl _ _ rfl (lit0B wr) rfl rfl (by exact r1) (by simp : (cells x).length = x.length * 1) (cells_one x) (by unfold maxLen; omega) (by have : (0 + x.length) * by_ ≤ 1000000 * 64 := Nat.mul_le_mul (by omega) hby; omega) (by simp) ?_; intro v4 w4 hown4 hg4 _; rw [Nat.zero_add, List.nil_append] at hown4; obtain ⟨A4, c4, rfl, hc4⟩ := own_form hown4; have hb4 : Below wr.heap.size wr w4 := ((Below.refl _ wr).alloc (Nat.le_refl _) _).trans (own_below (lit0B wr) hg4 (by simp)); obtain ⟨ss, own5, hssl, happ⟩ := OwnN.app (s := (A4, x.length, c4)) (b := x) (by decide) HO.out hb4 hbs rfl hown4 (.cells #[.slice A4 x.length c4] 22); have HAPP := Lib.hid happ; have HSSL := Lib.hid hssl; have hssm : ss.length ≤ 1000000 := Nat.le_trans (Nat.le_of_eq (hssl.trans HLK.out)) hk6; clear happ hssl hown4 hg4)
      | (at_builtin; refine wpList_app El_bs rfl _ _ rfl own5 rfl rfl (by exact rd_one _ _ _ _ _ rfl (Nat.lt_add_one _)) rfl (by intro u hu; simp at hu; subst hu; rfl) (by unfold maxLen; omega) (by omega) (by have := hb4.size; simp; omega) ?_; intro v6 w6 hown6 hg6 _))
    have hb6 : Below w.heap.size w w6 := ((hbel.trans (hb4.mono hbs)).alloc (by have := hb4.size; omega) _).trans (own_below own5 hg6 (by have := hb4.size; simp; omega))
    go_roundw
    case rel => exact ⟨k + 1, by omega, by go_num, by rw [HTK.out]; exact HAPP.out w6 _ hown6 hg6, hb6⟩
    case measure => simp [intOf]; omega
/-! ### how much a statement looks at -/
def lng7 (T : List UInt8) (rows : List (List V)) : Bool := (decide (12 < T.length) || decide (200 < rows.length)) || rows.any fun r => decide (12 < r.length) || r.any fun v => decide (200 < v.t.length)
def hvy7 (T : List UInt8) (ps : List (List UInt8)) : Bool := (decide (12 < T.length) || decide (8 < ps.length)) || ps.any fun p => decide (1100 < p.length)
theorem lng7_no {T : List UInt8} {rows : List (List V)} (h : lng7 T rows = false) : T.length ≤ 12 ∧ rows.length ≤ 200 ∧ ∀ r ∈ rows, r.length ≤ 12 ∧ ∀ v ∈ r, v.t.length ≤ 200 := by
  unfold lng7 at h
  rw [Bool.or_eq_false_iff, Bool.or_eq_false_iff, List.any_eq_false] at h
  obtain ⟨⟨h1, h2⟩, h3⟩ := h
  refine ⟨by simpa using h1, by simpa using h2, fun r hr => ?_⟩
  have h4 := h3 r hr
  rw [Bool.not_eq_true, Bool.or_eq_false_iff, List.any_eq_false] at h4
  exact ⟨by simpa using h4.1, fun v hv => by simpa using h4.2 v hv⟩
theorem hvy7_no {T : List UInt8} {ps : List (List UInt8)} (h : hvy7 T ps = false) : T.length ≤ 12 ∧ ps.length ≤ 8 ∧ ∀ p ∈ ps, p.length ≤ 1100 := by
  unfold hvy7 at h
  rw [Bool.or_eq_false_iff, Bool.or_eq_false_iff, List.any_eq_false] at h
  obtain ⟨⟨h1, h2⟩, h3⟩ := h
  exact ⟨by simpa using h1, by simpa using h2, fun p hp => by simpa using h3 p hp⟩
set_option maxRecDepth 100000 in
theorem heavy_any (B : Nat) (A A' : Option Addr) (c c' : Nat) (T : List UInt8) (l : List (List UInt8)) (w : World) (hr : RdBB w B A' l) (hB : B ≤ w.heap.size) (hTl : T.length ≤ maxLen) (hll : l.length ≤ maxLen) :
    Calls Try.prog 16 #[.slice A T.length c, .slice A' l.length c'] w fun e w' => e = .returned (.bool (hvy7 T l)) ∧ w = w' := by
  unfold maxLen at hTl hll
  by_cases h1 : 12 < T.length
  · have he : hvy7 T l = true := by simp [hvy7, h1]
    have h1I : (12 : Int) < (T.length : Int) := by omega
    rw [he]
    clear he
    go_enter Try.func16, Try.ntmps16
    go_wp2
    go_ret
    exact ⟨rfl, rfl⟩
  have h1I : (T.length : Int) ≤ 12 := by omega
  by_cases h2 : 8 < l.length
  · have he : hvy7 T l = true := by simp [hvy7, h2]
    have h2I : (8 : Int) < (l.length : Int) := by omega
    rw [he]
    clear he
    go_enter Try.func16, Try.ntmps16
    go_wp2
    go_ret
    exact ⟨rfl, rfl⟩
  have h2I : (l.length : Int) ≤ 8 := by omega
  obtain ⟨bl, hbl⟩ : ∃ b, b = hvy7 T l := ⟨_, rfl⟩
  have HBL := Lib.hid hbl
  rw [← hbl]
  clear hbl
  go_enter Try.func16, Try.ntmps16
  go_wp2
  go_loopw [5] (fun v5 wr => ∃ k : Nat, k ≤ l.length ∧ v5 = .int .i64 k ∧ (∀ p ∈ l.take k, p.length ≤ 1100) ∧ w = wr) (fun v5 _ => l.length - (intOf v5).toNat)
  case atStart => exact ⟨0, by omega, rfl, by simp, rfl⟩
  case round =>
    obtain ⟨k, hk, rfl, hall, rfl⟩ := hrel
    have HALL := Lib.hid hall
    clear hall
    by_cases hlt : k < l.length
    · obtain ⟨x, hx⟩ : ∃ v, l[k]? = some v := ⟨_, List.getElem?_eq_getElem hlt⟩
      obtain ⟨ga, oa, a1, ca, rfl, hga, q0, _, _⟩ := rdN_at hr hx
      have HX := Lib.hid hx
      have hltI : (k : Int) < (l.length : Int) := by omega
      clear hx
      by_cases h3 : 1100 < x.length
      · have he : bl = true := by
          rw [HBL.out]
          unfold hvy7
          rw [Bool.or_eq_true, List.any_eq_true]
          exact .inr ⟨x, List.mem_of_getElem? HX.out, by simpa using h3⟩
        subst he
        have h3I : (1100 : Int) < (x.length : Int) := by omega
        go_wp2_with fail
        go_ret
        exact ⟨rfl, rfl⟩
      · have h3I : (x.length : Int) ≤ 1100 := by omega
        go_wp2_with fail
        go_roundw
        case rel =>
          refine ⟨k + 1, by omega, by go_num, fun y hy => ?_, by trivial⟩
          rw [List.take_add_one, HX.out] at hy
          rcases List.mem_append.1 hy with h | h
          · exact HALL.out y h
          · simp at h; subst h; omega
        case measure => simp [intOf]; omega
    · have hkk : k = l.length := by omega
      have he : bl = false := by
        have h4 := HALL.out
        rw [hkk, List.take_length] at h4
        rw [HBL.out]
        unfold hvy7
        rw [Bool.or_eq_false_iff, Bool.or_eq_false_iff, List.any_eq_false]
        exact ⟨⟨by simpa using h1, by simpa using h2⟩, fun p hp => by have := h4 p hp; simp; omega⟩
      have hge : (l.length : Int) ≤ (k : Int) := by omega
      subst he
      clear hkk
      go_wp2_with fail
      go_ret
      exact ⟨rfl, rfl⟩
set_option maxHeartbeats 2000000 in
set_option maxRecDepth 100000 in
theorem long7_any (B : Nat) (A A' : Option Addr) (c c' : Nat) (T : List UInt8) (l : List (List V)) (w : World) (hr : RdVV w B A' l) (hB : B ≤ w.heap.size) (hTl : T.length ≤ maxLen) (hll : l.length ≤ maxLen) :
    Calls Try.prog 9 #[.slice A T.length c, .slice A' l.length c'] w fun e w' => e = .returned (.bool (lng7 T l)) ∧ w = w' := by
  unfold maxLen at hTl hll
  by_cases h1 : 12 < T.length
  · have he : lng7 T l = true := by simp [lng7, h1]
    have h1I : (12 : Int) < (T.length : Int) := by omega
    rw [he]
    clear he
    go_enter Try.func9, Try.ntmps9
    go_wp2
    go_ret
    exact ⟨rfl, rfl⟩
  have h1I : (T.length : Int) ≤ 12 := by omega
  by_cases h2 : 200 < l.length
  · have he : lng7 T l = true := by simp [lng7, h2]
    have h2I : (200 : Int) < (l.length : Int) := by omega
    rw [he]
    clear he
    go_enter Try.func9, Try.ntmps9
    go_wp2
    go_ret
    exact ⟨rfl, rfl⟩
  have h2I : (l.length : Int) ≤ 200 := by omega
  obtain ⟨bl, hbl⟩ : ∃ b, b = lng7 T l := ⟨_, rfl⟩
  have HBL := Lib.hid hbl
  rw [← hbl]
  clear hbl
  go_enter Try.func9, Try.ntmps9
  go_wp2
  go_loopw [5] (fun v5 wr => ∃ k : Nat, k ≤ l.length ∧ v5 = .int .i64 k ∧ (∀ r ∈ l.take k, r.length ≤ 12 ∧ ∀ v ∈ r, v.t.length ≤ 200) ∧ w = wr) (fun v5 _ => l.length - (intOf v5).toNat)
  case atStart => exact ⟨0, by omega, rfl, by simp, rfl⟩
  case round =>
    obtain ⟨k, hk, rfl, hall, rfl⟩ := hrel
    have HALL := Lib.hid hall
    clear hall
    by_cases hlt : k < l.length
    case neg =>
      have hkk : k = l.length := by omega
      have he : bl = false := by
        have h4 := HALL.out
        rw [hkk, List.take_length] at h4
        rw [HBL.out]
        unfold lng7
        rw [Bool.or_eq_false_iff, Bool.or_eq_false_iff, List.any_eq_false]
        refine ⟨⟨by simpa using h1, by simpa using h2⟩, fun r hr => ?_⟩
        obtain ⟨a, b⟩ := h4 r hr
        rw [Bool.not_eq_true, Bool.or_eq_false_iff, List.any_eq_false]
        exact ⟨by simpa using a, fun v hv => by simpa using b v hv⟩
      have hge : (l.length : Int) ≤ (k : Int) := by omega
      subst he
      clear hkk
      go_wp2_with fail
      go_ret
      exact ⟨rfl, rfl⟩
    obtain ⟨x, hx⟩ : ∃ v, l[k]? = some v := ⟨_, List.getElem?_eq_getElem hlt⟩
    obtain ⟨ga, oa, a1, ca, rfl, hga, q0, _, hra⟩ := rdN_at hr hx
    have HX := Lib.hid hx
    have hltI : (k : Int) < (l.length : Int) := by omega
    clear hx
    by_cases h3 : 12 < x.length
    · have he : bl = true := by
        rw [HBL.out]
        unfold lng7
        rw [Bool.or_eq_true, List.any_eq_true]
        exact .inr ⟨x, List.mem_of_getElem? HX.out, by simp [h3]⟩
      subst he
      have h3I : (12 : Int) < (x.length : Int) := by omega
      go_wp2_with fail
      go_ret
      exact ⟨rfl, rfl⟩
    have h3I : (x.length : Int) ≤ 12 := by omega
    go_wp2_with fail
    go_loopw [6] (fun v6 wr => ∃ j : Nat, j ≤ x.length ∧ v6 = .int .i64 j ∧ (∀ v ∈ x.take j, v.t.length ≤ 200) ∧ w = wr) (fun v6 _ => x.length - (intOf v6).toNat)
    case atStart => exact ⟨0, by omega, rfl, by simp, rfl⟩
    case round =>
      obtain ⟨j, hj, rfl, hall, rfl⟩ := hrel
      have HALL2 := Lib.hid hall
      clear hall
      by_cases hjt : j < x.length
      case neg =>
        have hjj : j = x.length := by omega
        have hge : (x.length : Int) ≤ (j : Int) := by omega
        have HA3 := Lib.hid (show ∀ v ∈ x, v.t.length ≤ 200 by have h := HALL2.out; rw [hjj, List.take_length] at h; exact h)
        clear hjj
        go_wp2_with fail
        go_roundw
        case rel =>
          refine ⟨k + 1, by omega, by go_num, fun y hy => ?_, by trivial⟩
          rw [List.take_add_one, HX.out] at hy
          rcases List.mem_append.1 hy with h | h
          · exact HALL.out y h
          · simp at h; subst h; exact ⟨by omega, HA3.out⟩
        case measure => simp [intOf]; omega
      obtain ⟨v, hv⟩ : ∃ v, x[j]? = some v := ⟨_, List.getElem?_eq_getElem hjt⟩
      obtain ⟨gb, go, rfl, hgb, r0, r1, r2⟩ := rd_val hra hv
      have HV := Lib.hid hv
      have hjI : (j : Int) < (x.length : Int) := by omega
      clear hv
      by_cases h4 : 200 < v.t.length
      · have he : bl = true := by
          rw [HBL.out]
          unfold lng7
          rw [Bool.or_eq_true, List.any_eq_true]
          exact .inr ⟨x, List.mem_of_getElem? HX.out, by rw [Bool.or_eq_true, List.any_eq_true]; exact .inr ⟨v, List.mem_of_getElem? HV.out, by simpa using h4⟩⟩
        subst he
        have h4I : (200 : Int) < (v.t.length : Int) := by omega
        go_wp2_with fail
        go_ret
        exact ⟨rfl, rfl⟩
      have h4I : (v.t.length : Int) ≤ 200 := by omega
      go_wp2_with fail
      go_roundw
      case rel =>
        refine ⟨j + 1, by omega, by go_num, fun y hy => ?_, by trivial⟩
        rw [List.take_add_one, HV.out] at hy
        rcases List.mem_append.1 hy with h | h
        · exact HALL2.out y h
        · simp at h; subst h; omega
      case measure => simp [intOf]; omega
set_option maxHeartbeats 2000000 in
set_option maxRecDepth 100000 in
theorem may7_any (B : Nat) (A A' : Option Addr) (c c' : Nat) (T : List UInt8) (l : List (List V)) (w : World) (hT : Rd w B A (cells T)) (hr : RdVV w B A' l) (hB : B ≤ w.heap.size) (hTl : T.length ≤ maxLen) (hll : l.length ≤ 1000000) (hok : ∀ r ∈ l, r.length ≤ maxLen ∧ ∀ v ∈ r, v.k < 256) :
    Calls Try.prog 24 #[.slice A T.length c, .slice A' l.length c'] w fun e w' => e = .returned (.bool (knownT T && rowsOk T l)) ∧ Below w.heap.size w w' := by
  have HOK := Lib.hid hok
  have KT := Lib.hid (Rw.Types_any B A c T w hT hTl)
  obtain ⟨kt, hkt⟩ : ∃ b, b = knownT T := ⟨_, rfl⟩
  rw [← hkt] at KT ⊢
  clear hok hkt
  go_enter Try.func24, Try.ntmps24
  go_wp2_with fail
  refine KT.out.mono ?_; rintro e w1 ⟨rfl, hq⟩
  subst hq
  go_wp2_with fail
  go_loopw [5, 6] (fun v5 v6 wr => ∃ k : Nat, k ≤ l.length ∧ v6 = .int .i64 k ∧ v5 = .bool (kt && rowsOk T (l.take k)) ∧ Below w.heap.size w wr) (fun _ v6 _ => l.length - (intOf v6).toNat)
  case atStart => exact ⟨0, by omega, rfl, by simp [rowsOk], Below.refl _ _⟩
  case round =>
    obtain ⟨k, hk, rfl, rfl, hbel⟩ := hrel
    obtain ⟨b, hb⟩ : ∃ b, b = (kt && rowsOk T (l.take k)) := ⟨_, rfl⟩
    have HB := Lib.hid hb
    rw [← hb]
    clear hb
    by_cases hlt : k < l.length
    case neg =>
      have hkk : k = l.length := by omega
      have hge : (l.length : Int) ≤ (k : Int) := by omega
      have HE := Lib.hid (show b = (kt && rowsOk T l) by rw [HB.out, hkk, List.take_length])
      clear hkk
      go_wp2_with fail
      go_ret
      exact ⟨by rw [HE.out]; rfl, hbel⟩
    obtain ⟨x, hx⟩ : ∃ v, l[k]? = some v := ⟨_, List.getElem?_eq_getElem hlt⟩
    obtain ⟨ga, oa, a1, ca, rfl, hga, q0, _, hra⟩ := rdN_at hr hx
    have q1 := (hbel.cell (p := ⟨ga, oa + k, none⟩) (by show ga < _; omega)).trans q0
    obtain ⟨o1, o2⟩ := HOK.out x (List.mem_of_getElem? hx)
    have HN := Lib.hid (show (kt && rowsOk T (l.take (k + 1))) = (b && rowok T x) by
      rw [HB.out, Bool.and_assoc]
      congr 1
      unfold rowsOk
      rw [List.take_add_one, hx, List.all_append]
      simp)
    have KR := Lib.hid (Rw.RRow_any B A a1 c ca T x wr (hT.below (hbel.mono hB)) (hra.below (hbel.mono hB)) (by have := hbel.size; omega) o1 o2)
    obtain ⟨y, hy⟩ : ∃ y, y = rowok T x := ⟨_, rfl⟩
    rw [← hy] at KR HN
    have hltI : (k : Int) < (l.length : Int) := by omega
    clear hx q0 hra hy
    cases b
    · go_wp2_with fail
      go_roundw
      case rel => exact ⟨k + 1, by omega, by go_num, by rw [HN.out]; rfl, hbel⟩
      case measure => simp [intOf]; omega
    · go_wp2_with fail
      refine KR.out.mono ?_; rintro e w2 ⟨rfl, hb2⟩
      go_wp2_with fail
      go_roundw
      case rel => exact ⟨k + 1, by omega, by go_num, by rw [HN.out]; simp, hbel.trans (hb2.mono hbel.size)⟩
      case measure => simp [intOf]; omega
end Go.Proofs.Ythkpgjcnnfdibaa

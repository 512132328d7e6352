/- The walks of the reference's One and Put (layer 4): what they answer is vone and rput. No condition but sizes. -/
import Derived.Test.YtfnbckgpldkgmaaRow7
namespace Go.Proofs.Ytfnbckgpldkgmaa
open Go.RowKit Go.Maps
set_option linter.unusedVariables false
set_option linter.unusedSimpArgs false

theorem own_box8 (w : World) (o : Obj) (x : Value) : ((w.alloc o).alloc (.cells #[x] 5)).ownsRow w.heap.size 5 1 (.slice (some ⟨w.heap.size + 1, 0, none⟩) 1 1) 1 [x] := by
  have h := World.ownsRow_lit (base := w.heap.size) (e := 5) (size := 1) (w.alloc o) #[x] 1 (by simp) (by unfold maxLen; omega) rfl
  rw [World.size_alloc] at h
  exact h

set_option maxHeartbeats 2000000 in
set_option maxRecDepth 100000 in
theorem ROne_any (v : V) (hm : mayB v = true) (hn : i64r v.n) (ht : v.t.length ≤ 4294967296) (w : World) : Calls Try.prog 21 #[va v] w (RetB w (vone v)) := by
  obtain ⟨k, n, t⟩ := v
  dsimp only at hn ht ⊢
  rcases mayB_k hm with ⟨h, h1⟩ | ⟨h1, hn1, h2⟩ | ⟨h1, h2⟩ | ⟨h1, h2⟩
  · obtain ⟨rfl, rfl, rfl⟩ : k = 0 ∧ n = 0 ∧ t = [] := by
      unfold null at h1
      exact ⟨congrArg V.k h1, congrArg V.n h1, congrArg V.t h1⟩
    have he : vone ⟨0, 0, []⟩ = [] := rfl
    rw [he]
    clear he hm h1 h
    go_enter Try.func21, Try.ntmps21
    go_wp2
    go_ret
    exact retB_of (World.ownsRow_nil _ _ _ _) (by go_grown)
  · dsimp only at h1 hn1 h2
    subst h1
    rcases hn1 with rfl | rfl
    all_goals
      go_enter Try.func21, Try.ntmps21
      go_wp2
      go_ret
      exact retB_of (own_box8 w _ _) (by go_grown)
  · dsimp only at h1
    subst h1
    have hz := zig_bd n hn.1 hn.2
    obtain ⟨u, hu⟩ : ∃ u : Nat, zig n = u := Int.eq_ofNat_of_zero_le hz.1
    have hub : u < 18446744073709551616 := by omega
    have he : vone ⟨2, n, t⟩ = vput u := by
      show vput (zig n).toNat = _
      rw [hu]; rfl
    rw [he]
    have Z0 := fun w => rZig_any n hn.1 hn.2 w
    rw [hu] at Z0
    have HZ := Lib.hid Z0
    clear Z0 hu hz he hm
    go_enter Try.func21, Try.ntmps21
    go_wp2_with fail
    refine (HZ.out _).mono ?_; rintro e w1 ⟨rfl, rfl⟩
    go_wp2_with fail
    refine (rPut_any u hub _).mono ?_; rintro e w2 ⟨A2, c2, rfl, hown2, hb2⟩
    have hb : Below w.heap.size w w2 := ((Below.refl _ w).alloc (Nat.le_refl _) _).trans (hb2.mono (by simp))
    have hown3 : w2.ownsRow w.heap.size 5 1 (.slice A2 (vput u).length c2) (vput u).length (cells (vput u)) := own_lower hown2 (by simp)
    clear hown2 hb2
    go_wp2_with fail
    go_ret
    exact retB_of hown3 hb
  · dsimp only at h1
    subst h1
    have hlt := vput_length64 (show t.length < 18446744073709551616 by omega)
    have he : vone ⟨3, n, t⟩ = vput t.length ++ t := rfl
    rw [he]
    clear he hm h2
    go_enter Try.func21, Try.ntmps21
    go_wp2_with fail
    obtain ⟨w1, hw1⟩ : ∃ w1, w1 = w.alloc (.cells #[.int .u8 3, .int .i64 n, txt t] 37) := ⟨_, rfl⟩
    have hc : w1.cell? ⟨w.heap.size, 2, none⟩ = some (txt t) := by rw [hw1]; exact (cv_block w _ _ _ _).2.2
    have hb1 : Below w.heap.size w w1 := by rw [hw1]; exact (Below.refl _ _).alloc (Nat.le_refl _) _
    have hz1 : w1.heap.size = w.heap.size + 1 := by rw [hw1]; simp
    rw [← hw1]
    have F1 : ∀ w', Below w1.heap.size w1 w' → w'.cell? ⟨w.heap.size, 2, none⟩ = some (txt t) := fun w' h => cell_be hc h (by show w.heap.size < _; omega)
    clear hc hw1
    have hwr : IntKind.u64.wrap (t.length : Int) = (t.length : Int) := by rw [IntKind.wrap_u64]; omega
    refine ah_start 9 (fun w' => Below w1.heap.size w1 w') rfl (by kernel_rfl) (Below.refl _ _).drew ?_ ; intro hS
    (refine mv_val 0 (v := ?_) rfl (by kernel_rfl) (by kernel_rfl) (by kernel_rfl) (fun _ _ _ h => h) (by rfl) hS ?_ ?_; rotate_left; (focus (intro w hSw; (try dsimp only at hSw); (have f1 := F1 w hSw; have f2 := hwr); go_simp; first | done | with_reducible rfl)); simp only [Act.put, List.setIfInBounds_toArray, List.set_cons_zero, List.set_cons_succ])
    (refine mv_val 1 (v := ?_) rfl (by kernel_rfl) (by kernel_rfl) (by kernel_rfl) (fun _ _ _ h => h) (by rfl) hS ?_ ?_; rotate_left; (focus (intro w hSw; (try dsimp only at hSw); (have f1 := F1 w hSw; have f2 := hwr); go_simp; first | done | with_reducible rfl)); simp only [Act.put, List.setIfInBounds_toArray, List.set_cons_zero, List.set_cons_succ])
    (refine mv_val 2 (v := ?_) rfl (by kernel_rfl) (by kernel_rfl) (by kernel_rfl) (fun _ _ _ h => h) (by rfl) hS ?_ ?_; rotate_left; (focus (intro w hSw; (try dsimp only at hSw); (have f1 := F1 w hSw; have f2 := hwr); go_simp; first | done | with_reducible rfl)); simp only [Act.put, List.setIfInBounds_toArray, List.set_cons_zero, List.set_cons_succ])
    (refine mv_val 3 (v := ?_) rfl (by kernel_rfl) (by kernel_rfl) (by kernel_rfl) (fun _ _ _ h => h) (by rfl) hS ?_ ?_; rotate_left; (focus (intro w hSw; (try dsimp only at hSw); (have f1 := F1 w hSw; have f2 := hwr); go_simp; first | done | with_reducible rfl)); simp only [Act.put, List.setIfInBounds_toArray, List.set_cons_zero, List.set_cons_succ])
    (refine mv_val 5 (v := ?_) rfl (by kernel_rfl) (by kernel_rfl) (by kernel_rfl) (fun _ _ _ h => h) (by rfl) hS ?_ ?_; rotate_left; (focus (intro w hSw; (try dsimp only at hSw); (have f1 := F1 w hSw; have f2 := hwr); go_simp; first | done | with_reducible rfl)); simp only [Act.put, List.setIfInBounds_toArray, List.set_cons_zero, List.set_cons_succ])
    (refine mv_val 6 (v := ?_) rfl (by kernel_rfl) (by kernel_rfl) (by kernel_rfl) (fun _ _ _ h => h) (by rfl) hS ?_ ?_; rotate_left; (focus (intro w hSw; (try dsimp only at hSw); (have f1 := F1 w hSw; have f2 := hwr); go_simp; first | done | with_reducible rfl)); simp only [Act.put, List.setIfInBounds_toArray, List.set_cons_zero, List.set_cons_succ])
    (refine mv_call 4 (f := ?_) (args := ?_) rfl (by kernel_rfl) (by rfl) ?_ ?_; rotate_left 2; (focus (go_simp; first | done | with_reducible rfl | (refine ⟨?_, ?_⟩ <;> with_reducible rfl))))
    refine (rPut_any t.length (by omega) _).mono ?_; rintro e w2 ⟨A2, c2, rfl, hown2, hb2⟩
    have hS2 : Below w1.heap.size w1 w2 := hS.trans (hb2.mono hS.size)
    refine ⟨_, rfl, hS2, ?_⟩
    have hs1 := hS.size
    replace hS := hS2
    have hs2 := hS2.size
    simp only [Act.put, List.setIfInBounds_toArray, List.set_cons_zero, List.set_cons_succ]
    refine mv_step 7 rfl (by kernel_rfl) (by rfl) (fun K hK => ?_)
    refine wp_app_str _ _ rfl hown2 rfl rfl (by omega) hb2.size ?_; intro v3 w3 hown3 hg3; refine hK _ _ ?_ ?_ <;> clear hK K
    · exact hS.trans ((own_below (base := w1.heap.size) (own_lower hown2 hs1) hg3 (by omega)))
    have hS3 : Below w1.heap.size w1 w3 := hS.trans ((own_below (base := w1.heap.size) (own_lower hown2 hs1) hg3 (by omega)))
    replace hS := hS3
    try simp only [Act.put, List.setIfInBounds_toArray, List.set_cons_zero, List.set_cons_succ]
    (refine mv_val 8 (v := ?_) rfl (by kernel_rfl) (by kernel_rfl) (by kernel_rfl) (fun _ _ _ h => h) (by rfl) hS ?_ ?_; rotate_left; (focus (intro w hSw; (try dsimp only at hSw); (have f1 := F1 w hSw; have f2 := hwr); go_simp; first | done | with_reducible rfl)); simp only [Act.put, List.setIfInBounds_toArray, List.set_cons_zero, List.set_cons_succ])
    refine wpAnyH_done (by kernel_rfl) ?_ _
    go_wp2_with fail
    go_ret
    have hb : Below w.heap.size w w3 := hb1.trans (hS3.mono (by omega))
    refine retB_of ?_ hb
    rw [cells_append, List.length_append]
    exact own_lower hown3 (by omega)

/-! ### the bytes of nulls, as the reference lays them -/
def nb (l : List V) (k : Nat) : List UInt8 := layP (size8 k) (fun i => decide (i < k) && nullAt l i)
def nbm (l : List V) (k : Nat) : List UInt8 := layP (size8 (k + 1)) (fun i => decide (i < k) && nullAt l i)
theorem nb_len (l : List V) (k : Nat) : (nb l k).length = size8 k := layP_length _ _
theorem nbm_len (l : List V) (k : Nat) : (nbm l k).length = size8 (k + 1) := layP_length _ _
theorem layP_more (m : Nat) (p : Nat → Bool) : layP (m + 1) p = layP m p ++ [(byteP p m).toUInt8] := by
  unfold layP; rw [List.range_succ, List.map_append]; rfl
theorem nbm_0 {l : List V} {k : Nat} (h : k % 8 = 0) : nbm l k = nb l k ++ [0] := by
  have e : size8 (k + 1) = size8 k + 1 := by unfold size8; omega
  have e2 : size8 k = k / 8 := by unfold size8; omega
  unfold nbm nb
  rw [e, layP_more]
  congr 2
  have : byteP (fun i => decide (i < k) && nullAt l i) (size8 k) = byteP (fun _ => false) (size8 k) := byteP_congr fun r hr => by
    have : ¬ (8 * size8 k + r < k) := by omega
    simp [this]
  rw [this]
  simp [byteP, bw]
theorem nbm_n0 {l : List V} {k : Nat} (h : k % 8 ≠ 0) : nbm l k = nb l k := by
  have e : size8 (k + 1) = size8 k := by unfold size8; omega
  unfold nbm nb
  rw [e]
theorem nbm_get (l : List V) (k : Nat) : (nbm l k)[k / 8]? = some (byAt l k).toUInt8 := by
  unfold nbm
  rw [layP_get _ (by unfold size8; omega)]; rfl
theorem nb_val {l : List V} {k : Nat} {v : V} (h : l[k]? = some v) (h0 : v.k ≠ 0) : nb l (k + 1) = nbm l k := by
  unfold nb nbm
  refine layP_congr fun i _ => ?_
  by_cases hik : i = k
  · subst hik; rw [nullAt_of h]; simp [isNull, h0]
  · congr 1
    exact decide_eq_decide.2 (by omega)
theorem nb_null {l : List V} {k : Nat} {v : V} (h : l[k]? = some v) (h0 : v.k = 0) : nb l (k + 1) = (nbm l k).set (k / 8) (byAt l k + 2 ^ (k % 8)).toUInt8 := by
  have hp : (fun i => decide (i < k) && nullAt l i) (8 * (k / 8) + k % 8) = false := by
    have : ¬ (8 * (k / 8) + k % 8 < k) := by omega
    simp [this]
  have e : byAt l k + 2 ^ (k % 8) = byAt l k ||| 2 ^ (k % 8) := by
    unfold byAt
    rw [byteP_add _ _ _ (Nat.mod_lt _ (by omega)) hp, byteP_or _ _ _ (Nat.mod_lt _ (by omega))]
  rw [e]
  unfold nb nbm byAt
  rw [layP_set _ _ _ (by unfold size8; omega)]
  refine layP_congr fun i _ => ?_
  by_cases hik : i = k
  · subst hik; rw [nullAt_of h]; simp [isNull, h0]
  · have e : decide (i < k + 1) = decide (i < k) := decide_eq_decide.2 (by omega)
    simp [e, hik]
theorem by_add_lt {l : List V} {k : Nat} : byAt l k + 2 ^ (k % 8) < 256 := by
  have hp : (fun i => decide (i < k) && nullAt l i) (8 * (k / 8) + k % 8) = false := by
    have : ¬ (8 * (k / 8) + k % 8 < k) := by omega
    simp [this]
  unfold byAt
  rw [byteP_add _ _ _ (Nat.mod_lt _ (by omega)) hp]
  exact byteP_lt _ _
theorem nb_end (l : List V) : nb l l.length = layP (size8 l.length) (nullAt l) := by
  unfold nb
  refine layP_congr fun i _ => ?_
  by_cases hi : i < l.length
  · simp [hi]
  · have : nullAt l i = false := by unfold nullAt; rw [List.getElem?_eq_none (by omega)]
    simp [this]
end Go.Proofs.Ytfnbckgpldkgmaa

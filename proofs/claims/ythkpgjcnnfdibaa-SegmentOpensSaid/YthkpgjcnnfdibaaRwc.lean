/- Joined texts: see the remark ahead of each part. No condition but those that the parts name. -/
import Derived.Test.YthkpgjcnnfdibaaRwb
/-! The walks of the reference's One and Put (layer 4): what they answer is vone and rput. No condition but sizes. -/
namespace Go.Proofs.Ythkpgjcnnfdibaa.Rw
open Go.RowKit Go.Maps
set_option linter.unusedVariables false
set_option linter.unusedSimpArgs false

theorem own_box8 (w : World) (o : Obj) (x : Value) : ((w.alloc o).alloc (.cells #[x] 5)).ownsRow w.heap.size 5 1 (.slice (some ⟨w.heap.size + 1, 0, none⟩) 1 1) 1 [x] := by
  have h := World.ownsRow_lit (base := w.heap.size) (e := 5) (size := 1) (w.alloc o) #[x] 1 (by simp) (by unfold maxLen; omega) rfl
  rw [World.size_alloc] at h
  exact h

set_option maxHeartbeats 2000000 in
set_option maxRecDepth 100000 in
theorem ROne_any (v : V) (hm : mayB v = true) (hn : i64r v.n) (ht : v.t.length ≤ 4294967296) (w : World) : Calls Try.prog 91 #[va v] w (RetB w (vone v)) := by
  obtain ⟨k, n, t⟩ := v
  dsimp only at hn ht ⊢
  rcases mayB_k hm with ⟨h, h1⟩ | ⟨h1, hn1, h2⟩ | ⟨h1, h2⟩ | ⟨h1, h2⟩
  · obtain ⟨rfl, rfl, rfl⟩ : k = 0 ∧ n = 0 ∧ t = [] := by
      unfold null at h1
      exact ⟨congrArg V.k h1, congrArg V.n h1, congrArg V.t h1⟩
    have he : vone ⟨0, 0, []⟩ = [] := rfl
    rw [he]
    clear he hm h1 h
    go_enter Try.func91, Try.ntmps91
    go_wp2
    go_ret
    exact retB_of (World.ownsRow_nil _ _ _ _) (by go_grown)
  · dsimp only at h1 hn1 h2
    subst h1
    rcases hn1 with rfl | rfl
    all_goals
      go_enter Try.func91, Try.ntmps91
      go_wp2
      go_ret
      exact retB_of (own_box8 w _ _) (by go_grown)
  · dsimp only at h1
    subst h1
    have hz := zig_bd n hn.1 hn.2
    obtain ⟨u, hu⟩ : ∃ u : Nat, zig n = u := Int.eq_ofNat_of_zero_le hz.1
    have hub : u < 18446744073709551616 := by omega
    have he : vone ⟨2, n, t⟩ = vput u := by
      show vput (zig n).toNat = _
      rw [hu]; rfl
    rw [he]
    have Z0 := fun w => rZig_any n hn.1 hn.2 w
    rw [hu] at Z0
    have HZ := Lib.hid Z0
    clear Z0 hu hz he hm
    go_enter Try.func91, Try.ntmps91
    go_wp2_with fail
    refine (HZ.out _).mono ?_; rintro e w1 ⟨rfl, rfl⟩
    go_wp2_with fail
    refine (rPut_any u hub _).mono ?_; rintro e w2 ⟨A2, c2, rfl, hown2, hb2⟩
    have hb : Below w.heap.size w w2 := ((Below.refl _ w).alloc (Nat.le_refl _) _).trans (hb2.mono (by simp))
    have hown3 : w2.ownsRow w.heap.size 5 1 (.slice A2 (vput u).length c2) (vput u).length (cells (vput u)) := own_lower hown2 (by simp)
    clear hown2 hb2
    go_wp2_with fail
    go_ret
    exact retB_of hown3 hb
  · dsimp only at h1
    subst h1
    have hlt := vput_length64 (show t.length < 18446744073709551616 by omega)
    have he : vone ⟨3, n, t⟩ = vput t.length ++ t := rfl
    rw [he]
    clear he hm h2
    go_enter Try.func91, Try.ntmps91
    go_wp2_with fail
    obtain ⟨w1, hw1⟩ : ∃ w1, w1 = w.alloc (.cells #[.int .u8 3, .int .i64 n, txt t] 46) := ⟨_, rfl⟩
    have hc : w1.cell? ⟨w.heap.size, 2, none⟩ = some (txt t) := by rw [hw1]; exact (cv_block w _ _ _ _).2.2
    have hb1 : Below w.heap.size w w1 := by rw [hw1]; exact (Below.refl _ _).alloc (Nat.le_refl _) _
    have hz1 : w1.heap.size = w.heap.size + 1 := by rw [hw1]; simp
    rw [← hw1]
    have F1 : ∀ w', Below w1.heap.size w1 w' → w'.cell? ⟨w.heap.size, 2, none⟩ = some (txt t) := fun w' h => cell_be hc h (by show w.heap.size < _; omega)
    clear hc hw1
    have hwr : IntKind.u64.wrap (t.length : Int) = (t.length : Int) := by rw [IntKind.wrap_u64]; omega
    refine ah_start 9 (fun w' => Below w1.heap.size w1 w') rfl (by kernel_rfl) (Below.refl _ _).drew ?_ ; intro hS
    (refine mv_val 0 (v := ?_) rfl (by kernel_rfl) (by kernel_rfl) (by kernel_rfl) (fun _ _ _ h => h) (by rfl) hS ?_ ?_; rotate_left; (focus (intro w hSw; (try dsimp only at hSw); (have f1 := F1 w hSw; have f2 := hwr); go_simp; first | done | with_reducible rfl)); simp only [Act.put, List.setIfInBounds_toArray, List.set_cons_zero, List.set_cons_succ])
    (refine mv_val 1 (v := ?_) rfl (by kernel_rfl) (by kernel_rfl) (by kernel_rfl) (fun _ _ _ h => h) (by rfl) hS ?_ ?_; rotate_left; (focus (intro w hSw; (try dsimp only at hSw); (have f1 := F1 w hSw; have f2 := hwr); go_simp; first | done | with_reducible rfl)); simp only [Act.put, List.setIfInBounds_toArray, List.set_cons_zero, List.set_cons_succ])
    (refine mv_val 2 (v := ?_) rfl (by kernel_rfl) (by kernel_rfl) (by kernel_rfl) (fun _ _ _ h => h) (by rfl) hS ?_ ?_; rotate_left; (focus (intro w hSw; (try dsimp only at hSw); (have f1 := F1 w hSw; have f2 := hwr); go_simp; first | done | with_reducible rfl)); simp only [Act.put, List.setIfInBounds_toArray, List.set_cons_zero, List.set_cons_succ])
    (refine mv_val 3 (v := ?_) rfl (by kernel_rfl) (by kernel_rfl) (by kernel_rfl) (fun _ _ _ h => h) (by rfl) hS ?_ ?_; rotate_left; (focus (intro w hSw; (try dsimp only at hSw); (have f1 := F1 w hSw; have f2 := hwr); go_simp; first | done | with_reducible rfl)); simp only [Act.put, List.setIfInBounds_toArray, List.set_cons_zero, List.set_cons_succ])
    (refine mv_val 5 (v := ?_) rfl (by kernel_rfl) (by kernel_rfl) (by kernel_rfl) (fun _ _ _ h => h) (by rfl) hS ?_ ?_; rotate_left; (focus (intro w hSw; (try dsimp only at hSw); (have f1 := F1 w hSw; have f2 := hwr); go_simp; first | done | with_reducible rfl)); simp only [Act.put, List.setIfInBounds_toArray, List.set_cons_zero, List.set_cons_succ])
    (refine mv_val 6 (v := ?_) rfl (by kernel_rfl) (by kernel_rfl) (by kernel_rfl) (fun _ _ _ h => h) (by rfl) hS ?_ ?_; rotate_left; (focus (intro w hSw; (try dsimp only at hSw); (have f1 := F1 w hSw; have f2 := hwr); go_simp; first | done | with_reducible rfl)); simp only [Act.put, List.setIfInBounds_toArray, List.set_cons_zero, List.set_cons_succ])
    (refine mv_call 4 (f := ?_) (args := ?_) rfl (by kernel_rfl) (by rfl) ?_ ?_; rotate_left 2; (focus (go_simp; first | done | with_reducible rfl | (refine ⟨?_, ?_⟩ <;> with_reducible rfl))))
    refine (rPut_any t.length (by omega) _).mono ?_; rintro e w2 ⟨A2, c2, rfl, hown2, hb2⟩
    have hS2 : Below w1.heap.size w1 w2 := hS.trans (hb2.mono hS.size)
    refine ⟨_, rfl, hS2, ?_⟩
    have hs1 := hS.size
    replace hS := hS2
    have hs2 := hS2.size
    simp only [Act.put, List.setIfInBounds_toArray, List.set_cons_zero, List.set_cons_succ]
    refine mv_step 7 rfl (by kernel_rfl) (by rfl) (fun K hK => ?_)
    refine wp_app_str _ _ rfl hown2 rfl rfl (by omega) hb2.size ?_; intro v3 w3 hown3 hg3; refine hK _ _ ?_ ?_ <;> clear hK K
    · exact hS.trans ((own_below (base := w1.heap.size) (own_lower hown2 hs1) hg3 (by omega)))
    have hS3 : Below w1.heap.size w1 w3 := hS.trans ((own_below (base := w1.heap.size) (own_lower hown2 hs1) hg3 (by omega)))
    replace hS := hS3
    try simp only [Act.put, List.setIfInBounds_toArray, List.set_cons_zero, List.set_cons_succ]
    (refine mv_val 8 (v := ?_) rfl (by kernel_rfl) (by kernel_rfl) (by kernel_rfl) (fun _ _ _ h => h) (by rfl) hS ?_ ?_; rotate_left; (focus (intro w hSw; (try dsimp only at hSw); (have f1 := F1 w hSw; have f2 := hwr); go_simp; first | done | with_reducible rfl)); simp only [Act.put, List.setIfInBounds_toArray, List.set_cons_zero, List.set_cons_succ])
    refine wpAnyH_done (by kernel_rfl) ?_ _
    go_wp2_with fail
    go_ret
    have hb : Below w.heap.size w w3 := hb1.trans (hS3.mono (by omega))
    refine retB_of ?_ hb
    rw [cells_append, List.length_append]
    exact own_lower hown3 (by omega)

/-! ### the bytes of nulls, as the reference lays them -/
def nb (l : List V) (k : Nat) : List UInt8 := layP (size8 k) (fun i => decide (i < k) && nullAt l i)
def nbm (l : List V) (k : Nat) : List UInt8 := layP (size8 (k + 1)) (fun i => decide (i < k) && nullAt l i)
theorem nb_len (l : List V) (k : Nat) : (nb l k).length = size8 k := layP_length _ _
theorem nbm_len (l : List V) (k : Nat) : (nbm l k).length = size8 (k + 1) := layP_length _ _
theorem layP_more (m : Nat) (p : Nat → Bool) : layP (m + 1) p = layP m p ++ [(byteP p m).toUInt8] := by
  unfold layP; rw [List.range_succ, List.map_append]; rfl
theorem nbm_0 {l : List V} {k : Nat} (h : k % 8 = 0) : nbm l k = nb l k ++ [0] := by
  have e : size8 (k + 1) = size8 k + 1 := by unfold size8; omega
  have e2 : size8 k = k / 8 := by unfold size8; omega
  unfold nbm nb
  rw [e, layP_more]
  congr 2
  have : byteP (fun i => decide (i < k) && nullAt l i) (size8 k) = byteP (fun _ => false) (size8 k) := byteP_congr fun r hr => by
    have : ¬ (8 * size8 k + r < k) := by omega
    simp [this]
  rw [this]
  simp [byteP, bw]
theorem nbm_n0 {l : List V} {k : Nat} (h : k % 8 ≠ 0) : nbm l k = nb l k := by
  have e : size8 (k + 1) = size8 k := by unfold size8; omega
  unfold nbm nb
  rw [e]
theorem nbm_get (l : List V) (k : Nat) : (nbm l k)[k / 8]? = some (byAt l k).toUInt8 := by
  unfold nbm
  rw [layP_get _ (by unfold size8; omega)]; rfl
theorem nb_val {l : List V} {k : Nat} {v : V} (h : l[k]? = some v) (h0 : v.k ≠ 0) : nb l (k + 1) = nbm l k := by
  unfold nb nbm
  refine layP_congr fun i _ => ?_
  by_cases hik : i = k
  · subst hik; rw [nullAt_of h]; simp [isNull, h0]
  · congr 1
    exact decide_eq_decide.2 (by omega)
theorem nb_null {l : List V} {k : Nat} {v : V} (h : l[k]? = some v) (h0 : v.k = 0) : nb l (k + 1) = (nbm l k).set (k / 8) (byAt l k + 2 ^ (k % 8)).toUInt8 := by
  have hp : (fun i => decide (i < k) && nullAt l i) (8 * (k / 8) + k % 8) = false := by
    have : ¬ (8 * (k / 8) + k % 8 < k) := by omega
    simp [this]
  have e : byAt l k + 2 ^ (k % 8) = byAt l k ||| 2 ^ (k % 8) := by
    unfold byAt
    rw [byteP_add _ _ _ (Nat.mod_lt _ (by omega)) hp, byteP_or _ _ _ (Nat.mod_lt _ (by omega))]
  rw [e]
  unfold nb nbm byAt
  rw [layP_set _ _ _ (by unfold size8; omega)]
  refine layP_congr fun i _ => ?_
  by_cases hik : i = k
  · subst hik; rw [nullAt_of h]; simp [isNull, h0]
  · have e : decide (i < k + 1) = decide (i < k) := decide_eq_decide.2 (by omega)
    simp [e, hik]
theorem by_add_lt {l : List V} {k : Nat} : byAt l k + 2 ^ (k % 8) < 256 := by
  have hp : (fun i => decide (i < k) && nullAt l i) (8 * (k / 8) + k % 8) = false := by
    have : ¬ (8 * (k / 8) + k % 8 < k) := by omega
    simp [this]
  unfold byAt
  rw [byteP_add _ _ _ (Nat.mod_lt _ (by omega)) hp]
  exact byteP_lt _ _
theorem nb_end (l : List V) : nb l l.length = layP (size8 l.length) (nullAt l) := by
  unfold nb
  refine layP_congr fun i _ => ?_
  by_cases hi : i < l.length
  · simp [hi]
  · have : nullAt l i = false := by unfold nullAt; rw [List.getElem?_eq_none (by omega)]
    simp [this]
end Go.Proofs.Ythkpgjcnnfdibaa.Rw

/-! The walk of the reference's Put (layer 4): what it answers is rput. No condition but sizes. -/
namespace Go.Proofs.Ythkpgjcnnfdibaa.Rw
open Go.RowKit Go.Maps
set_option linter.unusedVariables false
set_option linter.unusedSimpArgs false

theorem add8 (x y : Nat) (h : x + y < 256) : IntKind.u8.wrap ((x : Int) + (y : Int)) = ((x + y : Nat) : Int) := by rw [IntKind.wrap_u8]; omega

theorem byte_eq (z : Int) (y : Nat) (hy : y < 256) (h : z = y) : Value.int .u8 z = b8 y.toUInt8 := by
  unfold b8; rw [toNat_toUInt8 hy, h]
theorem set_cells (bs : List UInt8) (j : Nat) (b : UInt8) : cells (bs.set j b) = (cells bs).set j (b8 b) := by unfold cells; rw [List.map_set]
theorem own_byte {w : World} {base g cap j y : Nat} {z : Int} {bs bs' : List UInt8} (h : w.ownsRow base 5 1 (.slice (some ⟨g, 0, none⟩) bs.length cap) bs.length (cells bs)) (hy : y < 256) (hz : z = y) (hb : bs' = bs.set j y.toUInt8) :
    (w.setCell ⟨g, j, none⟩ (.int .u8 z)).drew.ownsRow base 5 1 (.slice (some ⟨g, 0, none⟩) bs.length cap) bs'.length (cells bs') := by
  have h1 := (h.stored j (.int .u8 z)).1
  rw [hb, List.length_set, set_cells, ← byte_eq z y hy hz]
  exact h1
theorem z_eq (x r : Nat) (h : x + 2 ^ r < 256) : ((x : Int) + 2 ^ r % 256) % 256 = ((x + 2 ^ r : Nat) : Int) := by
  obtain ⟨q, hq⟩ : ∃ q, q = 2 ^ r := ⟨_, rfl⟩
  rw [show ((2 : Int) ^ r) = ((2 ^ r : Nat) : Int) by simp, ← hq]
  rw [← hq] at h
  omega
theorem nbm_own {w : World} {base : Nat} {v : Value} {a bs : List UInt8} (h : w.ownsRow base 5 1 v (a.length + 1) (cells a ++ [.int .u8 0])) (hb : bs = a ++ [0]) : w.ownsRow base 5 1 v bs.length (cells bs) := by
  rw [hb, cells_append, List.length_append]; exact h
set_option maxHeartbeats 4000000 in
set_option maxRecDepth 100000 in
theorem RPut_row (B : Nat) (A A' : Option Addr) (c c' : Nat) (T : List UInt8) (l : List V) (w : World) (hT : Rd w B A (cells T)) (hl : Rd w B A' (vcells l)) (hB : B ≤ w.heap.size)
    (hTl : T.length ≤ 4294967296) (hll : l.length ≤ 4294967296) (hok : ∀ v ∈ l, v.k < 256 ∧ i64r v.n ∧ v.t.length ≤ 1000000) (hlen : (rbytes l).length ≤ 4294967296) :
    Calls Try.prog 57 #[.slice A T.length c, .slice A' l.length c'] w (RetBE w (rput T l)) := by
  have K0 := fun w h => Types_any B A c T w h (by unfold maxLen; omega)
  obtain ⟨kn, hkn⟩ : ∃ x, x = knownT T := ⟨_, rfl⟩
  rw [← hkn] at K0
  have HK := Lib.hid K0
  have HKN := Lib.hid hkn
  clear K0 hkn
  cases kn
  case false =>
    have he : rput T l = ([], 1) := by unfold rput; rw [← HKN.out]; rfl
    have HE := Lib.hid he
    clear he
    go_enter Try.func57, Try.ntmps57
    go_wp2_with fail
    refine (HK.out _ hT).mono ?_; rintro e w1 ⟨rfl, rfl⟩
    go_wp2_with fail
    go_ret2
    exact retBE_err HE.out (Below.refl _ _)
  have R0 := fun w hT hl hB => RRow_any B A A' c c' T l w hT hl hB (by unfold maxLen; omega) fun v hv => (hok v hv).1
  obtain ⟨ro, hro⟩ : ∃ x, x = rowok T l := ⟨_, rfl⟩
  rw [← hro] at R0
  have HR := Lib.hid R0
  have HRO := Lib.hid hro
  clear R0 hro
  cases ro
  case false =>
    have he : rput T l = ([], 1) := by unfold rput; rw [← HRO.out]; simp
    have HE := Lib.hid he
    clear he
    go_enter Try.func57, Try.ntmps57
    go_wp2_with fail
    refine (HK.out _ hT).mono ?_; rintro e w1 ⟨rfl, rfl⟩
    go_wp2_with fail
    refine (HR.out _ hT hl hB).mono ?_; rintro e w1 ⟨rfl, hb1⟩
    go_wp2_with fail
    go_ret2
    exact retBE_err HE.out hb1
  have he : rput T l = (rbytes l, 0) := by unfold rput; rw [← HRO.out, ← HKN.out]; simp
  have hrow := HRO.out.symm
  unfold rowok at hrow
  rw [Bool.and_eq_true] at hrow
  have hmay : ∀ v ∈ l, mayB v = true := fun v hv => by
    obtain ⟨i, hi⟩ := List.getElem?_of_mem hv
    have hlt := (List.getElem?_eq_some_iff.1 hi).1
    have h1 := (mays_iff T l).1 hrow.2 i (T[i]'(by have := of_decide_eq_true hrow.1; omega)) v (List.getElem?_eq_getElem _) hi
    unfold rmay at h1
    rw [Bool.and_eq_true] at h1; exact h1.1
  have HE := Lib.hid he
  have HMAY := Lib.hid hmay
  obtain ⟨n, hn⟩ : ∃ n, n = l.length := ⟨_, rfl⟩
  have HN := Lib.hid hn
  have hrl : size8 n + (l.flatMap vone).length ≤ 4294967296 := by
    have h2 : (rbytes l).length = size8 l.length + (l.flatMap vone).length := by unfold rbytes; rw [List.length_append, layP_length]
    rw [hn]; omega
  have HRL := Lib.hid hrl
  rw [← hn] at HR hll ⊢
  clear he hrow hmay hn hrl hlen
  go_enter Try.func57, Try.ntmps57
  go_wp2_with fail
  refine (HK.out _ hT).mono ?_; rintro e w1 ⟨rfl, rfl⟩
  go_wp2_with fail
  refine (HR.out _ hT hl hB).mono ?_; rintro e w1 ⟨rfl, hb1⟩
  go_wp2_with fail
  go_loopw [6, 7] (fun v6 v7 wr => ∃ k : Nat, k ≤ n ∧ v7 = .int .i64 k ∧ wr.ownsRow w.heap.size 5 1 v6 (nb l k).length (cells (nb l k)) ∧ Below w.heap.size w wr) (fun _ v7 _ => n - (intOf v7).toNat)
  case atStart => exact ⟨0, by omega, rfl, World.ownsRow_nil _ _ _ _, hb1⟩
  case round =>
    obtain ⟨k, hk, rfl, hown, hbel⟩ := hrel
    by_cases hlt : k < n
    case neg =>
      have hkn : k = n := by omega
      have hge : (n : Int) ≤ (k : Int) := by omega
      have hown2 : wr.ownsRow w.heap.size 5 1 _ _ _ := hown
      rw [hkn, HN.out, nb_end, ← HN.out] at hown2
      have hs1 : size8 n ≤ n + 7 := by unfold size8; omega
      obtain ⟨pre, hpre⟩ : ∃ p, p = layP (size8 l.length) (nullAt l) := ⟨_, rfl⟩
      have hpl : pre.length = size8 n := by rw [hpre, layP_length, ← HN.out]
      rw [show size8 n = size8 l.length by rw [← HN.out], ← hpre] at hown2
      have HPRE := Lib.hid hpre
      have HRL2 := HRL.out
      clear hkn hown hb1 hpre
      go_wp2_with fail
      go_loopw [6, 8] (fun v6 v8 ws => ∃ k : Nat, k ≤ n ∧ v8 = .int .i64 k ∧ ws.ownsRow w.heap.size 5 1 v6 (pre ++ (l.take k).flatMap vone).length (cells (pre ++ (l.take k).flatMap vone)) ∧ Below w.heap.size w ws) (fun _ v8 _ => n - (intOf v8).toNat)
      case atStart => exact ⟨0, by omega, rfl, by simpa using hown2, hbel⟩
      case round =>
        clear hown2 hbel hge hlt
        obtain ⟨q, hq, rfl, hown, hbel⟩ := hrel
        by_cases hlt : q < n
        case neg =>
          have hqn : q = n := by omega
          have hbs : pre ++ (l.take q).flatMap vone = rbytes l := by
            rw [hqn, HN.out, List.take_length, HPRE.out]; rfl
          rw [hbs] at hown
          have hge : (n : Int) ≤ (q : Int) := by omega
          clear hqn hbs
          go_wp2_with fail
          go_ret2
          exact retBE_ok HE.out hown hbel
        obtain ⟨v, hv⟩ : ∃ v, l[q]? = some v := ⟨_, List.getElem?_eq_getElem (by rw [← HN.out]; exact hlt)⟩
        obtain ⟨gb, go, rfl, hgb, q0, q1, q2⟩ := rd_val hl hv
        have r0 := (hbel.cell (p := ⟨gb, go + q * 3, none⟩) (by show gb < _; omega)).trans q0
        have r1 := (hbel.cell (p := ⟨gb, go + q * 3 + 1, none⟩) (by show gb < _; omega)).trans q1
        have r2 := (hbel.cell (p := ⟨gb, go + q * 3 + 2, none⟩) (by show gb < _; omega)).trans q2
        have hqI : (q : Int) < (n : Int) := by omega
        obtain ⟨hvk, hvn, hvt⟩ := hok v (List.mem_of_getElem? hv)
        have O0 := fun w => ROne_any v (HMAY.out v (List.mem_of_getElem? hv)) hvn (by omega) w
        have hfm := flat_more hv
        have hf1 := flatv_le l q
        have hf2 := flatv_le l (q + 1)
        rw [hfm, List.length_append] at hf2
        obtain ⟨bs, hbs⟩ : ∃ bs, bs = pre ++ (l.take q).flatMap vone := ⟨_, rfl⟩
        have hnx : pre ++ (l.take (q + 1)).flatMap vone = bs ++ vone v := by rw [hfm, hbs, List.append_assoc]
        have hbl : bs.length = pre.length + ((l.take q).flatMap vone).length := by rw [hbs, List.length_append]
        rw [← hbs] at hown
        obtain ⟨ov, hov⟩ : ∃ o, o = vone v := ⟨_, rfl⟩
        rw [← hov] at O0 hnx hf2
        have HO := Lib.hid O0
        have HNX := Lib.hid hnx
        have hsum : bs.length + ov.length ≤ 4294967296 := by omega
        clear hv O0 hnx hfm hf1 hf2 hbs hov hbl q0 q1 q2
        go_wp2_with fail
        refine (HO.out _).mono ?_; rintro e w2 ⟨A2, c2, rfl, hown2, hb2⟩
        have hown3 := own_bel hown hb2
        have hb02 : Below w.heap.size w w2 := hbel.trans (hb2.mono hbel.size)
        have hrd2 := rd_own hown2
        clear hown2 hown
        go_wp2_with (at_builtin; refine wpList_app El_u8 rfl _ _ rfl hown3 rfl rfl hrd2 (by simp) (cells_one ov) (by unfold maxLen; omega) (by omega) hb02.size ?_; intro v3 w3 hown4 hg4 _; have hb3 : Below w.heap.size w w3 := hb02.trans (own_below hown3 hg4 hb02.size))
        go_roundw
        case rel =>
          refine ⟨q + 1, by omega, by go_num, ?_, hb3⟩
          rw [HNX.out, cells_append, List.length_append]; exact hown4
        case measure => simp [intOf]; omega
    obtain ⟨v, hv⟩ : ∃ v, l[k]? = some v := ⟨_, List.getElem?_eq_getElem (by rw [← HN.out]; exact hlt)⟩
    obtain ⟨gb, go, rfl, hgb, q0, q1, q2⟩ := rd_val hl hv
    have F1 : ∀ w', Below w.heap.size w w' → w'.cell? ⟨gb, go + k * 3, none⟩ = some (.int .u8 (v.k : Int)) := fun w' hb => (hb.cell (p := ⟨gb, go + k * 3, none⟩) (by show gb < _; omega)).trans q0
    have hkI : (k : Int) < (n : Int) := by omega
    have HV := Lib.hid hv
    have hvk := (hok v (List.mem_of_getElem? hv)).1
    have hl1 := nb_len l k
    have hl2 : size8 k ≤ 4294967296 := by unfold size8; omega
    have hpos : 0 < (nbm l k).length := by rw [nbm_len]; unfold size8; omega
    have hlm : (nbm l k).length ≤ 4294967296 := by rw [nbm_len]; unfold size8; omega
    have hget := nbm_get l k
    obtain ⟨x, hx⟩ : ∃ x, x = byAt l k := ⟨_, rfl⟩
    have hx256 : x < 256 := by rw [hx]; exact byAt_lt _ _
    have hxa : x + 2 ^ (k % 8) < 256 := by rw [hx]; exact by_add_lt
    rw [← hx] at hget
    obtain ⟨j, hj⟩ : ∃ j, j = k / 8 := ⟨_, rfl⟩
    obtain ⟨r, hr⟩ : ∃ r, r = k % 8 := ⟨_, rfl⟩
    have hjI : (k : Int) / 8 = (j : Int) := by omega
    have hr8 : r < 8 := by omega
    have htm : (k : Int).tmod 8 = (r : Int) := by rw [Int.tmod_eq_emod_of_nonneg (by omega)]; omega
    have hjb : j < (nbm l k).length := by rw [nbm_len]; unfold size8; omega
    have hwj : IntKind.i64.wrap (j : Int) = (j : Int) := by rw [IntKind.wrap_i64]; omega
    have hsh := fun w => shl8 r hr8 w
    rw [← hj] at hget
    rw [← hr] at hxa
    have hadd := add8 x (2 ^ r) hxa
    have hNV : v.k ≠ 0 → nb l (k + 1) = nbm l k := fun h => nb_val hv h
    have hNN : v.k = 0 → nb l (k + 1) = (nbm l k).set j (x + 2 ^ r).toUInt8 := fun h => by rw [nb_null hv h, hx, hj, hr]
    have hN0 : k % 8 = 0 → nbm l k = nb l k ++ [0] := nbm_0
    have hN1 : k % 8 ≠ 0 → nbm l k = nb l k := nbm_n0
    obtain ⟨bs, hbs⟩ : ∃ bs, bs = nbm l k := ⟨_, rfl⟩
    rw [← hbs] at hpos hlm hget hjb hNV hNN hN0 hN1
    have hjLI : (j : Int) < (bs.length : Int) := by omega
    have HGET := Lib.hid hget
    have HNV := Lib.hid hNV
    have HNN := Lib.hid hNN
    have HN0 := Lib.hid hN0
    have HN1 := Lib.hid hN1
    have HX := Lib.hid hx
    clear q0 q1 q2 hv hx hj hget hNV hNN hN0 hN1 hbs
    by_cases hm8 : k % 8 = 0
    · have hm8I : ((k : Int) % 8 == 0) = true := by simp; omega
      by_cases h0 : v.k = 0
      · have e0 : ((v.k : Int) == 0) = true := by simp; omega
        have HNN2 := Lib.hid (HNN.out h0)
        clear h0
        go_wp2_with (at_builtin; refine wpList_app El_u8 rfl _ _ rfl (hown.alloc _) rfl rfl (by exact rd_one _ _ _ _ _ rfl (Nat.lt_add_one _)) rfl one_int (by unfold maxLen; omega) (by omega) (by have := hbel.size; simp; omega) ?_; intro v2 w2 hown2 hg2 _; have hb2 : Below w.heap.size w w2 := (hbel.alloc hbel.size _).trans (own_below (hown.alloc _) hg2 (by have := hbel.size; simp; omega)); have f1 := F1 w2 hb2; have hown3 := nbm_own hown2 (HN0.out hm8); obtain ⟨g, cap, rfl, hg1, hg3⟩ := own_some hown3 hpos)
        have hget := HGET.out
        have hcell : w2.cell? ⟨g, j, none⟩ = some (.int .u8 (x : Int)) := by
          rw [hown3.cellAt j (by omega), List.getElem?_map, hget]
          simp [b8, toNat_toUInt8 hx256]
        have hfr : w2.frozen? ⟨g, j, none⟩ = false := hown3.frozenAt j
        clear hget
        refine ah_start 14 (fun w' => True) rfl (by kernel_rfl) trivial ?_ ; intro hS
        (refine mv_val 0 (v := ?_) rfl (by kernel_rfl) (by kernel_rfl) (by kernel_rfl) (fun _ _ _ h => h) (by rfl) hS ?_ ?_; rotate_left; (focus (intro w hSw; (try dsimp only at hSw); (have f2 := hjb; have f3 := hjI; have f5 := hjLI; have f6 := hr8; have f7 := hwj; have f8 := htm; have f9 := hsh w; have f10 := hadd); go_simp; first | done | with_reducible rfl)); simp only [Act.put, List.setIfInBounds_toArray, List.set_cons_zero, List.set_cons_succ])
        (refine mv_val 1 (v := ?_) rfl (by kernel_rfl) (by kernel_rfl) (by kernel_rfl) (fun _ _ _ h => h) (by rfl) hS ?_ ?_; rotate_left; (focus (intro w hSw; (try dsimp only at hSw); (have f2 := hjb; have f3 := hjI; have f5 := hjLI; have f6 := hr8; have f7 := hwj; have f8 := htm; have f9 := hsh w; have f10 := hadd); go_simp; first | done | with_reducible rfl)); simp only [Act.put, List.setIfInBounds_toArray, List.set_cons_zero, List.set_cons_succ])
        (refine mv_val 2 (v := ?_) rfl (by kernel_rfl) (by kernel_rfl) (by kernel_rfl) (fun _ _ _ h => h) (by rfl) hS ?_ ?_; rotate_left; (focus (intro w hSw; (try dsimp only at hSw); (have f2 := hjb; have f3 := hjI; have f5 := hjLI; have f6 := hr8; have f7 := hwj; have f8 := htm; have f9 := hsh w; have f10 := hadd); go_simp; first | done | with_reducible rfl)); simp only [Act.put, List.setIfInBounds_toArray, List.set_cons_zero, List.set_cons_succ])
        (refine mv_val 3 (v := ?_) rfl (by kernel_rfl) (by kernel_rfl) (by kernel_rfl) (fun _ _ _ h => h) (by rfl) hS ?_ ?_; rotate_left; (focus (intro w hSw; (try dsimp only at hSw); (have f2 := hjb; have f3 := hjI; have f5 := hjLI; have f6 := hr8; have f7 := hwj; have f8 := htm; have f9 := hsh w; have f10 := hadd); go_simp; first | done | with_reducible rfl)); simp only [Act.put, List.setIfInBounds_toArray, List.set_cons_zero, List.set_cons_succ])
        (refine mv_val 4 (v := ?_) rfl (by kernel_rfl) (by kernel_rfl) (by kernel_rfl) (fun _ _ _ h => h) (by rfl) hS ?_ ?_; rotate_left; (focus (intro w hSw; (try dsimp only at hSw); (have f2 := hjb; have f3 := hjI; have f5 := hjLI; have f6 := hr8; have f7 := hwj; have f8 := htm; have f9 := hsh w; have f10 := hadd); go_simp; first | done | with_reducible rfl)); simp only [Act.put, List.setIfInBounds_toArray, List.set_cons_zero, List.set_cons_succ])
        (refine mv_val 5 (v := ?_) rfl (by kernel_rfl) (by kernel_rfl) (by kernel_rfl) (fun _ _ _ h => h) (by rfl) hS ?_ ?_; rotate_left; (focus (intro w hSw; (try dsimp only at hSw); (have f2 := hjb; have f3 := hjI; have f5 := hjLI; have f6 := hr8; have f7 := hwj; have f8 := htm; have f9 := hsh w; have f10 := hadd); go_simp; first | done | with_reducible rfl)); simp only [Act.put, List.setIfInBounds_toArray, List.set_cons_zero, List.set_cons_succ])
        (refine mv_val 6 (v := ?_) rfl (by kernel_rfl) (by kernel_rfl) (by kernel_rfl) (fun _ _ _ h => h) (by rfl) hS ?_ ?_; rotate_left; (focus (intro w hSw; (try dsimp only at hSw); (have f2 := hjb; have f3 := hjI; have f5 := hjLI; have f6 := hr8; have f7 := hwj; have f8 := htm; have f9 := hsh w; have f10 := hadd); go_simp; first | done | with_reducible rfl)); simp only [Act.put, List.setIfInBounds_toArray, List.set_cons_zero, List.set_cons_succ])
        (refine mv_val 8 (v := ?_) rfl (by kernel_rfl) (by kernel_rfl) (by kernel_rfl) (fun _ _ _ h => h) (by rfl) hS ?_ ?_; rotate_left; (focus (intro w hSw; (try dsimp only at hSw); (have f2 := hjb; have f3 := hjI; have f5 := hjLI; have f6 := hr8; have f7 := hwj; have f8 := htm; have f9 := hsh w; have f10 := hadd); go_simp; first | done | with_reducible rfl)); simp only [Act.put, List.setIfInBounds_toArray, List.set_cons_zero, List.set_cons_succ])
        (refine mv_val 9 (v := ?_) rfl (by kernel_rfl) (by kernel_rfl) (by kernel_rfl) (fun _ _ _ h => h) (by rfl) hS ?_ ?_; rotate_left; (focus (intro w hSw; (try dsimp only at hSw); (have f2 := hjb; have f3 := hjI; have f5 := hjLI; have f6 := hr8; have f7 := hwj; have f8 := htm; have f9 := hsh w; have f10 := hadd); go_simp; first | done | with_reducible rfl)); simp only [Act.put, List.setIfInBounds_toArray, List.set_cons_zero, List.set_cons_succ])
        (refine mv_val 10 (v := ?_) rfl (by kernel_rfl) (by kernel_rfl) (by kernel_rfl) (fun _ _ _ h => h) (by rfl) hS ?_ ?_; rotate_left; (focus (intro w hSw; (try dsimp only at hSw); (have f2 := hjb; have f3 := hjI; have f5 := hjLI; have f6 := hr8; have f7 := hwj; have f8 := htm; have f9 := hsh w; have f10 := hadd); go_simp; first | done | with_reducible rfl)); simp only [Act.put, List.setIfInBounds_toArray, List.set_cons_zero, List.set_cons_succ])
        refine mv_step 7 rfl (by kernel_rfl) (by rfl) (fun K hK => ?_)
        go_simp
        refine hK _ _ ?_ ?_ <;> clear hK K
        · trivial
        try simp only [Act.put, List.setIfInBounds_toArray, List.set_cons_zero, List.set_cons_succ]
        (refine mv_val 11 (v := ?_) rfl (by kernel_rfl) (by kernel_rfl) (by kernel_rfl) (fun _ _ _ h => h) (by rfl) hS ?_ ?_; rotate_left; (focus (intro w hSw; (try dsimp only at hSw); (have f2 := hjb; have f3 := hjI; have f5 := hjLI; have f6 := hr8; have f7 := hwj; have f8 := htm; have f9 := hsh w; have f10 := hadd); go_simp; first | done | with_reducible rfl)); simp only [Act.put, List.setIfInBounds_toArray, List.set_cons_zero, List.set_cons_succ])
        (refine mv_val 12 (v := ?_) rfl (by kernel_rfl) (by kernel_rfl) (by kernel_rfl) (fun _ _ _ h => h) (by rfl) hS ?_ ?_; rotate_left; (focus (intro w hSw; (try dsimp only at hSw); (have f2 := hjb; have f3 := hjI; have f5 := hjLI; have f6 := hr8; have f7 := hwj; have f8 := htm; have f9 := hsh w; have f10 := hadd); go_simp; first | done | with_reducible rfl)); simp only [Act.put, List.setIfInBounds_toArray, List.set_cons_zero, List.set_cons_succ])
        refine mv_step 13 rfl (by kernel_rfl) (by rfl) (fun K hK => ?_)
        go_simp
        refine hK _ _ ?_ ?_ <;> clear hK K
        · trivial
        try simp only [Act.put, List.setIfInBounds_toArray, List.set_cons_zero, List.set_cons_succ]
        refine wpAnyH_done (by kernel_rfl) ?_ _
        go_wp2_with fail
        go_roundw
        case rel =>
          refine ⟨k + 1, by omega, by go_num, ?_, ?_⟩
          · have hr0 : r = 0 := by omega
            exact own_byte hown3 hxa (by rw [hr0] at hxa ⊢; simp at hxa ⊢; omega) HNN2.out
          · exact (hb2.setCell (p := ⟨g, j, none⟩) hg1 _).drew
        case measure => simp [intOf]; omega
      · have e0 : ((v.k : Int) == 0) = false := by simp; omega
        go_wp2_with (at_builtin; refine wpList_app El_u8 rfl _ _ rfl (hown.alloc _) rfl rfl (by exact rd_one _ _ _ _ _ rfl (Nat.lt_add_one _)) rfl one_int (by unfold maxLen; omega) (by omega) (by have := hbel.size; simp; omega) ?_; intro v2 w2 hown2 hg2 _; have hb2 : Below w.heap.size w w2 := (hbel.alloc hbel.size _).trans (own_below (hown.alloc _) hg2 (by have := hbel.size; simp; omega)); have f1 := F1 w2 hb2; have hown3 := nbm_own hown2 (HN0.out hm8); obtain ⟨g, cap, rfl, hg1, hg3⟩ := own_some hown3 hpos)
        go_roundw
        case rel => exact ⟨k + 1, by omega, by go_num, by rw [HNV.out h0]; exact hown3, hb2⟩
        case measure => simp [intOf]; omega
    · have hm8I : ((k : Int) % 8 == 0) = false := by simp; omega
      have hown3 : wr.ownsRow w.heap.size 5 1 _ _ _ := hown
      rw [← HN1.out hm8] at hown3
      obtain ⟨g, cap, rfl, hg1, hg2⟩ := own_some hown3 hpos
      have f1 := F1 wr hbel
      by_cases h0 : v.k = 0
      · have e0 : ((v.k : Int) == 0) = true := by simp; omega
        have HNN2 := Lib.hid (HNN.out h0)
        clear h0 hm8
        go_wp2_with fail
        have hget := HGET.out
        have hcell : wr.cell? ⟨g, j, none⟩ = some (.int .u8 (x : Int)) := by
          rw [hown3.cellAt j (by omega), List.getElem?_map, hget]
          simp [b8, toNat_toUInt8 hx256]
        have hfr : wr.frozen? ⟨g, j, none⟩ = false := hown3.frozenAt j
        clear hget
        refine ah_start 14 (fun w' => True) rfl (by kernel_rfl) trivial ?_ ; intro hS
        (refine mv_val 0 (v := ?_) rfl (by kernel_rfl) (by kernel_rfl) (by kernel_rfl) (fun _ _ _ h => h) (by rfl) hS ?_ ?_; rotate_left; (focus (intro w hSw; (try dsimp only at hSw); (have f2 := hjb; have f3 := hjI; have f5 := hjLI; have f6 := hr8; have f7 := hwj; have f8 := htm; have f9 := hsh w; have f10 := hadd); go_simp; first | done | with_reducible rfl)); simp only [Act.put, List.setIfInBounds_toArray, List.set_cons_zero, List.set_cons_succ])
        (refine mv_val 1 (v := ?_) rfl (by kernel_rfl) (by kernel_rfl) (by kernel_rfl) (fun _ _ _ h => h) (by rfl) hS ?_ ?_; rotate_left; (focus (intro w hSw; (try dsimp only at hSw); (have f2 := hjb; have f3 := hjI; have f5 := hjLI; have f6 := hr8; have f7 := hwj; have f8 := htm; have f9 := hsh w; have f10 := hadd); go_simp; first | done | with_reducible rfl)); simp only [Act.put, List.setIfInBounds_toArray, List.set_cons_zero, List.set_cons_succ])
        (refine mv_val 2 (v := ?_) rfl (by kernel_rfl) (by kernel_rfl) (by kernel_rfl) (fun _ _ _ h => h) (by rfl) hS ?_ ?_; rotate_left; (focus (intro w hSw; (try dsimp only at hSw); (have f2 := hjb; have f3 := hjI; have f5 := hjLI; have f6 := hr8; have f7 := hwj; have f8 := htm; have f9 := hsh w; have f10 := hadd); go_simp; first | done | with_reducible rfl)); simp only [Act.put, List.setIfInBounds_toArray, List.set_cons_zero, List.set_cons_succ])
        (refine mv_val 3 (v := ?_) rfl (by kernel_rfl) (by kernel_rfl) (by kernel_rfl) (fun _ _ _ h => h) (by rfl) hS ?_ ?_; rotate_left; (focus (intro w hSw; (try dsimp only at hSw); (have f2 := hjb; have f3 := hjI; have f5 := hjLI; have f6 := hr8; have f7 := hwj; have f8 := htm; have f9 := hsh w; have f10 := hadd); go_simp; first | done | with_reducible rfl)); simp only [Act.put, List.setIfInBounds_toArray, List.set_cons_zero, List.set_cons_succ])
        (refine mv_val 4 (v := ?_) rfl (by kernel_rfl) (by kernel_rfl) (by kernel_rfl) (fun _ _ _ h => h) (by rfl) hS ?_ ?_; rotate_left; (focus (intro w hSw; (try dsimp only at hSw); (have f2 := hjb; have f3 := hjI; have f5 := hjLI; have f6 := hr8; have f7 := hwj; have f8 := htm; have f9 := hsh w; have f10 := hadd); go_simp; first | done | with_reducible rfl)); simp only [Act.put, List.setIfInBounds_toArray, List.set_cons_zero, List.set_cons_succ])
        (refine mv_val 5 (v := ?_) rfl (by kernel_rfl) (by kernel_rfl) (by kernel_rfl) (fun _ _ _ h => h) (by rfl) hS ?_ ?_; rotate_left; (focus (intro w hSw; (try dsimp only at hSw); (have f2 := hjb; have f3 := hjI; have f5 := hjLI; have f6 := hr8; have f7 := hwj; have f8 := htm; have f9 := hsh w; have f10 := hadd); go_simp; first | done | with_reducible rfl)); simp only [Act.put, List.setIfInBounds_toArray, List.set_cons_zero, List.set_cons_succ])
        (refine mv_val 6 (v := ?_) rfl (by kernel_rfl) (by kernel_rfl) (by kernel_rfl) (fun _ _ _ h => h) (by rfl) hS ?_ ?_; rotate_left; (focus (intro w hSw; (try dsimp only at hSw); (have f2 := hjb; have f3 := hjI; have f5 := hjLI; have f6 := hr8; have f7 := hwj; have f8 := htm; have f9 := hsh w; have f10 := hadd); go_simp; first | done | with_reducible rfl)); simp only [Act.put, List.setIfInBounds_toArray, List.set_cons_zero, List.set_cons_succ])
        (refine mv_val 8 (v := ?_) rfl (by kernel_rfl) (by kernel_rfl) (by kernel_rfl) (fun _ _ _ h => h) (by rfl) hS ?_ ?_; rotate_left; (focus (intro w hSw; (try dsimp only at hSw); (have f2 := hjb; have f3 := hjI; have f5 := hjLI; have f6 := hr8; have f7 := hwj; have f8 := htm; have f9 := hsh w; have f10 := hadd); go_simp; first | done | with_reducible rfl)); simp only [Act.put, List.setIfInBounds_toArray, List.set_cons_zero, List.set_cons_succ])
        (refine mv_val 9 (v := ?_) rfl (by kernel_rfl) (by kernel_rfl) (by kernel_rfl) (fun _ _ _ h => h) (by rfl) hS ?_ ?_; rotate_left; (focus (intro w hSw; (try dsimp only at hSw); (have f2 := hjb; have f3 := hjI; have f5 := hjLI; have f6 := hr8; have f7 := hwj; have f8 := htm; have f9 := hsh w; have f10 := hadd); go_simp; first | done | with_reducible rfl)); simp only [Act.put, List.setIfInBounds_toArray, List.set_cons_zero, List.set_cons_succ])
        (refine mv_val 10 (v := ?_) rfl (by kernel_rfl) (by kernel_rfl) (by kernel_rfl) (fun _ _ _ h => h) (by rfl) hS ?_ ?_; rotate_left; (focus (intro w hSw; (try dsimp only at hSw); (have f2 := hjb; have f3 := hjI; have f5 := hjLI; have f6 := hr8; have f7 := hwj; have f8 := htm; have f9 := hsh w; have f10 := hadd); go_simp; first | done | with_reducible rfl)); simp only [Act.put, List.setIfInBounds_toArray, List.set_cons_zero, List.set_cons_succ])
        refine mv_step 7 rfl (by kernel_rfl) (by rfl) (fun K hK => ?_)
        go_simp
        refine hK _ _ ?_ ?_ <;> clear hK K
        · trivial
        try simp only [Act.put, List.setIfInBounds_toArray, List.set_cons_zero, List.set_cons_succ]
        (refine mv_val 11 (v := ?_) rfl (by kernel_rfl) (by kernel_rfl) (by kernel_rfl) (fun _ _ _ h => h) (by rfl) hS ?_ ?_; rotate_left; (focus (intro w hSw; (try dsimp only at hSw); (have f2 := hjb; have f3 := hjI; have f5 := hjLI; have f6 := hr8; have f7 := hwj; have f8 := htm; have f9 := hsh w; have f10 := hadd); go_simp; first | done | with_reducible rfl)); simp only [Act.put, List.setIfInBounds_toArray, List.set_cons_zero, List.set_cons_succ])
        (refine mv_val 12 (v := ?_) rfl (by kernel_rfl) (by kernel_rfl) (by kernel_rfl) (fun _ _ _ h => h) (by rfl) hS ?_ ?_; rotate_left; (focus (intro w hSw; (try dsimp only at hSw); (have f2 := hjb; have f3 := hjI; have f5 := hjLI; have f6 := hr8; have f7 := hwj; have f8 := htm; have f9 := hsh w; have f10 := hadd); go_simp; first | done | with_reducible rfl)); simp only [Act.put, List.setIfInBounds_toArray, List.set_cons_zero, List.set_cons_succ])
        refine mv_step 13 rfl (by kernel_rfl) (by rfl) (fun K hK => ?_)
        go_simp
        refine hK _ _ ?_ ?_ <;> clear hK K
        · trivial
        try simp only [Act.put, List.setIfInBounds_toArray, List.set_cons_zero, List.set_cons_succ]
        refine wpAnyH_done (by kernel_rfl) ?_ _
        go_wp2_with fail
        go_roundw
        case rel =>
          refine ⟨k + 1, by omega, by go_num, ?_, ?_⟩
          · exact own_byte hown3 hxa (by rw [← hr]; exact z_eq x r hxa) HNN2.out
          · exact (hbel.setCell (p := ⟨g, j, none⟩) hg1 _).drew
        case measure => simp [intOf]; omega
      · have e0 : ((v.k : Int) == 0) = false := by simp; omega
        go_wp2_with fail
        go_roundw
        case rel => exact ⟨k + 1, by omega, by go_num, by rw [HNV.out h0]; exact hown3, hbel⟩
        case measure => simp [intOf]; omega
end Go.Proofs.Ythkpgjcnnfdibaa.Rw

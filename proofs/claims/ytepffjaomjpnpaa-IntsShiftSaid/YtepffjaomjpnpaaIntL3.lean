/- The walks of the laws IntsEven and IntsShift (layer 5): they answer true. No condition. -/
import Derived.Test.YtepffjaomjpnpaaIntL1
namespace Go.Proofs.Ytepffjaomjpnpaa
open Go.RowKit
set_option linter.unusedVariables false
set_option linter.unusedSimpArgs false

theorem u16_bd {a : Int} (h : (Lit.int .u16 a).wf = true) : 0 ≤ a ∧ a < 65536 := by
  simp [Lit.wf, IntKind.min, IntKind.max, IntKind.signed, IntKind.bits] at h
  omega
/-- numbers by even steps -/
def evn (v s : Int) : Nat → List Int
  | 0 => []
  | k + 1 => v :: evn (wrap64 (v + s)) s k
theorem evn_length (s : Int) : ∀ (k : Nat) (v : Int), (evn v s k).length = k
  | 0, _ => rfl
  | k + 1, v => by simp [evn, evn_length s k]
theorem evn_i64 (s : Int) : ∀ (k : Nat) (v : Int), i64 v → ∀ x ∈ evn v s k, i64 x
  | 0, _, _, x, hx => by simp [evn] at hx
  | k + 1, v, hv, x, hx => by
    rcases List.mem_cons.1 hx with rfl | hx
    · exact hv
    · exact evn_i64 s k _ (i64_wrap _) x hx
theorem chg_evn (s : Int) (hs : i64 s) : ∀ (k : Nat) (a : Int), i64 a → chg a s (evn (wrap64 (a + s)) s k) = List.replicate k 0
  | 0, _, _ => rfl
  | k + 1, a, ha => by
    have e1 : wrap64 (wrap64 (a + s) - a) = s := by unfold i64 at *; unfold wrap64; omega
    have e2 : wrap64 (s - s) = 0 := by unfold wrap64; omega
    simp only [evn, chg, e1, e2, List.replicate_succ]
    rw [chg_evn s hs k _ (i64_wrap _)]
theorem rl_rep_len : ∀ (k n : Nat) (ch : Int), (rl n ch (List.replicate k 0)).length ≤ 2 ∧ (ch = 0 → (rl n ch (List.replicate k 0)).length ≤ 1)
  | 0, n, ch => by unfold rl; simp; split <;> simp
  | k + 1, n, ch => by
    rw [List.replicate_succ]
    simp only [rl]
    split
    · rename_i h
      have := (rl_rep_len k 1 0).2 rfl
      refine ⟨by simp; omega, fun e => absurd e.symm h.2⟩
    · rename_i h
      have := (rl_rep_len k (n + 1) 0).2 rfl
      exact ⟨by omega, fun _ => this⟩
theorem evn_runs (f s : Int) (hf : i64 f) (hs : i64 s) (k : Nat) : (rl 0 0 (chg 0 0 (evn f s k))).length ≤ 3 := by
  match k with
  | 0 => simp [evn, chg, rl]
  | 1 => simp [evn, chg, rl]
  | k + 2 =>
    have e1 : wrap64 (wrap64 (f + s) - f) = s := by unfold i64 at *; unfold wrap64; omega
    simp only [evn, chg, e1]
    rw [chg_evn s hs k _ (i64_wrap _)]
    have h : ∀ (n : Nat) (a b : Int), (rl n a (b :: List.replicate k 0)).length ≤ 3 := fun n a b => by
      simp only [rl]
      split
      · have := (rl_rep_len k 1 b).1; simp; omega
      · have := (rl_rep_len k (n + 1) b).1; omega
    rw [rl, if_neg (by simp)]
    exact h _ _ _
theorem evn_bytes (f s : Int) (hf : i64 f) (hs : i64 s) (k : Nat) (hk : k ≤ 5000) : (iput (evn f s k)).length ≤ 36 := by
  have h3 := evn_runs f s hf hs k
  have hb : ∀ p ∈ rl 0 0 (chg 0 0 (evn f s k)), (enc1 p).length ≤ 12 := fun p hp => by
    have h1 := rl_count _ _ _ p hp
    rw [chg_length, evn_length] at h1
    have h2 := rl_val _ 0 0 (chg_i64 (evn f s k) 0 0) (by simp) p hp
    have h4 := vput_length 1 p.1 (by omega)
    have h5 := vput_length64 (zig_nat h2).1
    unfold enc1; rw [List.length_append]; omega
  unfold iput
  generalize rl 0 0 (chg 0 0 (evn f s k)) = R at *
  match R, h3 with
  | [], _ => simp
  | [a], _ => have := hb a (by simp); simp; omega
  | [a, b], _ => have := hb a (by simp); have := hb b (by simp); simp; omega
  | [a, b, c], _ => have := hb a (by simp); have := hb b (by simp); have := hb c (by simp); simp; omega

set_option maxHeartbeats 2000000 in
set_option maxRecDepth 100000 in
theorem intsEven_walk (f s n : Int) (W : World) (hf : i64 f) (hs : i64 s) (hn : 0 ≤ n ∧ n < 65536) :
    Calls Try.prog 6 #[.int .i64 f, .int .i64 s, .int .u16 n] W fun e w' => e = .returned (.bool true) ∧ Below W.heap.size W w' := by
  obtain ⟨K, hK⟩ : ∃ K : Nat, n % 5001 = (K : Int) := ⟨(n % 5001).toNat, by omega⟩
  have hK5 : K ≤ 5000 := by omega
  have hn1 := hn.1
  have hn2 := hn.2
  have HF := Lib.hid hf
  have HS := Lib.hid hs
  have II := (iget_iput (evn f s K) (evn_i64 s K f hf) (by rw [evn_length]; omega) 0).1
  have hB := evn_bytes f s hf hs K hK5
  have hel := evn_length s K f
  rw [hel] at II
  obtain ⟨L, hL⟩ : ∃ L, L = evn f s K := ⟨_, rfl⟩
  rw [← hL] at II hB hel
  have hKI : i64 (K : Int) := by unfold i64; omega
  obtain ⟨P, hP⟩ : ∃ P, P = iput L := ⟨_, rfl⟩
  rw [← hP] at II hB
  have C1 : ∀ (A : Option Addr) (c : Nat) (w : World), Rd w w.heap.size A (num L) → Calls Try.prog 9 #[.slice A K c] w (RetB w P) := fun A c w h => by
    rw [hP, ← hel]; exact Put_ints A c L (by omega) w h
  have C2 : ∀ (A1 : Option Addr) (c1 : Nat) (w : World), Rd w w.heap.size A1 (cells P) → P.length ≤ c1 → Calls Try.prog 13 #[.slice A1 P.length c1, .int .i64 (K : Int)] w (RetI w (L, 0)) := fun A1 c1 w h hc => by
    rw [← II]; exact Get_ints w.heap.size A1 c1 P _ w h (Nat.le_refl _) hc (by omega) hKI
  have C3 : ∀ (A A1 : Option Addr) (c c1 : Nat) (w : World), Rd w w.heap.size A (num L) → Rd w w.heap.size A1 (num L) → Calls Try.prog 11 #[.slice A K c, .slice A1 K c1] w fun e w' => e = .returned (.bool true) ∧ Below w.heap.size w w' := fun A A1 c c1 w h h' => by
    have := rSame_any w.heap.size A A1 c c1 L L w h h' (by omega)
    rw [decide_eq_true rfl, hel] at this; exact this
  have K1 := Lib.hid C1
  have K2 := Lib.hid C2
  have K3 := Lib.hid C3
  have HL := Lib.hid hL
  have HE := Lib.hid hel
  clear C1 C2 C3 hL hP II hel hf hs hKI hn
  go_enter Try.func6, Try.ntmps6
  go_wp2_with fail
  go_loopw [7, 8, 9] (fun v7 v8 v9 wr => ∃ (k : Nat) (v : Int) (xs : List Int), k ≤ K ∧ v9 = .int .i64 k ∧ v8 = .int .i64 v ∧ xs.length = k ∧ xs ++ evn v s (K - k) = L ∧ wr.ownsRow W.heap.size 2 1 v7 k (num xs) ∧ Below W.heap.size W wr)
    (fun _ _ v9 _ => K - (intOf v9).toNat)
  case atStart => exact ⟨0, f, [], by omega, rfl, rfl, rfl, by rw [HL.out]; rfl, World.ownsRow_nil _ _ _ _, Below.refl _ _⟩
  case round =>
    obtain ⟨k, v, xs, hk, rfl, rfl, hxl, hxs, hown, hnx⟩ := hrel
    obtain ⟨A7, c7, rfl, hc7⟩ := own_form hown
    have HX := Lib.hid hxs
    have HXL := Lib.hid hxl
    clear hxs hxl
    by_cases hlt : k < K
    · have hst : (xs ++ [v]) ++ evn (wrap64 (v + s)) s (K - (k + 1)) = L := by
        have := HX.out
        rw [show K - k = (K - (k + 1)) + 1 by omega, evn] at this
        rw [← this, List.append_assoc]; rfl
      have HT := Lib.hid hst
      clear hst
      go_wp2_with (at_builtin; refine wpList_app El_i64 rfl _ _ rfl (hown.alloc _) rfl rfl (by exact rd_one _ _ _ _ _ rfl (Nat.lt_add_one _)) rfl one_int (by unfold maxLen; omega) (by omega) (by have := hnx.size; simp; omega) ?_; intro v2 w2 hown2 hg2 _)
      have hb2 : Below W.heap.size W w2 := (hnx.alloc hnx.size _).trans (own_below (hown.alloc _) hg2 (by have := hnx.size; simp; omega))
      go_roundw
      case rel =>
        refine ⟨k + 1, _, xs ++ [v], by omega, by go_num, rfl, by rw [List.length_append, HXL.out]; rfl, HT.out, ?_, hb2⟩
        simpa [num] using hown2
      case measure => simp [intOf]; omega
    · have hkk : k = K := by omega
      subst hkk
      have hxe : xs = L := by rw [← HX.out, Nat.sub_self]; simp [evn]
      subst hxe
      go_wp2_with fail
      refine (K1.out _ _ _ (rd_own hown)).mono ?_; rintro e w1 ⟨A1, c1, rfl, hown1, bl1⟩
      have hc1 := own_le hown1
      have b1 : Below W.heap.size W w1 := hnx.trans (bl1.mono hnx.size)
      have hz1 := b1.size
      go_wp2_with fail
      refine (K2.out _ _ _ (rd_own hown1) hc1).mono ?_; rintro e w2 ⟨A2, c2, rfl, hown2, bl2⟩
      have b2 : Below W.heap.size W w2 := b1.trans (bl2.mono hz1)
      have hz2 := b2.size
      have hrdx : Rd w2 w2.heap.size A7 (num xs) := ((((rd_own hown).below bl1).more bl1.size).below bl2).more bl2.size
      have hrd2 := rd_own hown2
      have hxk := HE.out
      go_wp2_with fail
      refine (K3.out _ _ _ _ _ hrd2 hrdx).mono ?_; rintro e w3 ⟨rfl, bl3⟩
      have b3 : Below W.heap.size W w3 := b2.trans (bl3.mono hz2)
      go_wp2_with fail
      refine (puts5_any _).mono ?_; rintro e w4 ⟨rfl, bl4⟩
      go_wp2_with fail
      go_ret
      exact ⟨rfl, b3.trans (bl4.mono b3.size)⟩

set_option maxHeartbeats 2000000 in
set_option maxRecDepth 100000 in
theorem intsShift_walk (A : Option Addr) (c : Nat) (l : List Int) (by_ : Int) (W : World) (rd : Rd W W.heap.size A (num l)) (hl : l.length ≤ c ∧ c ≤ maxLen) (hi : ∀ v ∈ l, i64 v) (hb : i64 by_) :
    Calls Try.prog 7 #[.slice A l.length c, .int .i64 by_] W fun e w' => e = .returned (.bool true) ∧ Below W.heap.size W w' := by
  by_cases h5 : l.length ≤ 2000
  case neg =>
    have h5' : 2000 < l.length := by omega
    clear h5
    go_enter Try.func7, Try.ntmps7
    go_wp2
    go_ret
    exact ⟨rfl, Below.refl _ _⟩
  obtain ⟨M, hM⟩ : ∃ M, M = l.map fun x => wrap64 (x + by_) := ⟨_, rfl⟩
  have hMl : M.length = l.length := by rw [hM, List.length_map]
  have hMi : ∀ v ∈ M, i64 v := fun v hv => by
    rw [hM] at hv
    obtain ⟨x, _, rfl⟩ := List.mem_map.1 hv
    exact i64_wrap _
  have II := (iget_iput M hMi (by omega) 0).1
  have hpl := iput_length M (by omega)
  obtain ⟨P, hP⟩ : ∃ P, P = iput M := ⟨_, rfl⟩
  rw [← hP] at II hpl
  obtain ⟨N, hN⟩ : ∃ N, N = l.length := ⟨_, rfl⟩
  rw [hMl, ← hN] at II hpl
  rw [← hN] at hl h5 hMl ⊢
  have hNI : i64 (N : Int) := by unfold i64; omega
  have C1 : ∀ (A : Option Addr) (c : Nat) (w : World), Rd w w.heap.size A (num M) → Calls Try.prog 9 #[.slice A N c] w (RetB w P) := fun A c w h => by
    rw [hP, ← hMl]; exact Put_ints A c M (by omega) w h
  have C2 : ∀ (A1 : Option Addr) (c1 : Nat) (w : World), Rd w w.heap.size A1 (cells P) → P.length ≤ c1 → Calls Try.prog 13 #[.slice A1 P.length c1, .int .i64 (N : Int)] w (RetI w (M, 0)) := fun A1 c1 w h hc => by
    rw [← II]; exact Get_ints w.heap.size A1 c1 P _ w h (Nat.le_refl _) hc (by omega) hNI
  have K1 := Lib.hid C1
  have K2 := Lib.hid C2
  have HM := Lib.hid hM
  have HML := Lib.hid hMl
  have HN := Lib.hid hN
  have HI := Lib.hid hi
  obtain ⟨hl1, hl2⟩ := hl
  have hMk : ∀ (k : Nat) (x : Int), l[k]? = some x → M[k]? = some (wrap64 (x + by_)) := fun k x hx => by rw [hM, List.getElem?_map, hx]; rfl
  have HMK := Lib.hid hMk
  have hback : ∀ x, i64 x → wrap64 (wrap64 (x + by_) - by_) = x := fun x hx => by unfold i64 at *; unfold wrap64; omega
  have HBK := Lib.hid hback
  clear C1 C2 hM hP II hMl hNI hMi hi hb hN hMk hback
  go_enter Try.func7, Try.ntmps7
  go_wp2_with fail
  go_loopw [5, 6] (fun v5 v6 wr => ∃ (k : Nat), k ≤ N ∧ v6 = .int .i64 k ∧ wr.ownsRow W.heap.size 2 1 v5 k (num (M.take k)) ∧ Below W.heap.size W wr)
    (fun _ v6 _ => N - (intOf v6).toNat)
  case atStart => exact ⟨0, by omega, rfl, World.ownsRow_nil _ _ _ _, Below.refl _ _⟩
  case round =>
    obtain ⟨k, hk, rfl, hown, hnx⟩ := hrel
    obtain ⟨A7, c7, rfl, hc7⟩ := own_form hown
    by_cases hlt : k < N
    · obtain ⟨b, o, rfl, hbb, hcell⟩ := rd.at (k := k) (by simp [← HN.out]; exact hlt)
      obtain ⟨x, hx⟩ : ∃ x, l[k]? = some x := ⟨_, List.getElem?_eq_getElem (by rw [← HN.out]; exact hlt)⟩
      have hck := (hnx.cell (p := ⟨b, o + k, none⟩) hbb).trans (hcell k (.int .i64 x) (by rw [List.getElem?_map, hx]; rfl))
      have hts : M.take (k + 1) = M.take k ++ [wrap64 (x + by_)] := by
        rw [List.take_add_one, HMK.out k x hx]; rfl
      have HT := Lib.hid hts
      clear hts hx hcell
      go_wp2_with (at_builtin; refine wpList_app El_i64 rfl _ _ rfl (hown.alloc _) rfl rfl (by exact rd_one _ _ _ _ _ rfl (Nat.lt_add_one _)) rfl one_int (by unfold maxLen; omega) (by omega) (by have := hnx.size; simp; omega) ?_; intro v2 w2 hown2 hg2 _)
      have hb2 : Below W.heap.size W w2 := (hnx.alloc hnx.size _).trans (own_below (hown.alloc _) hg2 (by have := hnx.size; simp; omega))
      go_roundw
      case rel =>
        refine ⟨k + 1, by omega, by go_num, ?_, hb2⟩
        rw [HT.out]
        simpa [num] using hown2
      case measure => simp [intOf]; omega
    · have hkk : k = N := by omega
      subst hkk
      have hxe : M.take k = M := by rw [← HML.out, List.take_length]
      rw [hxe] at hown
      clear hxe
      go_wp2_with fail
      refine (K1.out _ _ _ (rd_own hown)).mono ?_; rintro e w1 ⟨A1, c1, rfl, hown1, bl1⟩
      have hc1 := own_le hown1
      have b1 : Below W.heap.size W w1 := hnx.trans (bl1.mono hnx.size)
      have hz1 := b1.size
      go_wp2_with fail
      refine (K2.out _ _ _ (rd_own hown1) hc1).mono ?_; rintro e w2 ⟨A2, c2, rfl, hown2, bl2⟩
      have b2 : Below W.heap.size W w2 := b1.trans (bl2.mono hz1)
      have hz2 := b2.size
      have hrd2 := rd_own hown2
      have hml := HML.out
      dsimp only at hrd2 hown2 ⊢
      rw [hml] at hown2 ⊢
      clear hml
      go_wp2_with fail
      go_loopw [9] (fun v9 ws => ∃ j : Nat, j ≤ k ∧ v9 = .int .i64 j ∧ Below w2.heap.size w2 ws) (fun v9 _ => k - (intOf v9).toNat)
      case atStart => exact ⟨0, by omega, rfl, Below.refl _ _⟩
      case round =>
        obtain ⟨j, hj, rfl, hnj⟩ := hrel
        by_cases hjk : j < k
        · obtain ⟨b, o, rfl, hbb, hcell⟩ := rd.at (k := j) (by simp [← HN.out]; exact hjk)
          obtain ⟨b', o', rfl, hbb', hcell'⟩ := hrd2.at (k := j) (by simp [HML.out]; exact hjk)
          obtain ⟨x, hx⟩ : ∃ x, l[j]? = some x := ⟨_, List.getElem?_eq_getElem (by rw [← HN.out]; exact hjk)⟩
          have hxi : i64 x := HI.out x (List.mem_of_getElem? hx)
          have hx1 := hcell j (.int .i64 x) (by rw [List.getElem?_map, hx]; rfl)
          have hx2 := hcell' j (.int .i64 (wrap64 (x + by_))) (by rw [List.getElem?_map, HMK.out j x hx]; rfl)
          have F1 : ∀ w', Below w2.heap.size w2 w' → w'.cell? ⟨b, o + j, none⟩ = some (.int .i64 x) := fun w' hw => (hw.cell (p := ⟨b, o + j, none⟩) (by show b < _; omega)).trans ((b2.cell (p := ⟨b, o + j, none⟩) hbb).trans hx1)
          have F2 : ∀ w', Below w2.heap.size w2 w' → w'.cell? ⟨b', o' + j, none⟩ = some (.int .i64 (wrap64 (x + by_))) := fun w' hw => (hw.cell (p := ⟨b', o' + j, none⟩) hbb').trans hx2
          obtain ⟨y, hy⟩ : ∃ y, y = wrap64 (x + by_) := ⟨_, rfl⟩
          have hyb : IntKind.i64.wrap (y - by_) = x := by rw [IntKind.wrap_i64, hy]; have h9 := HBK.out x hxi; generalize wrap64 (x + by_) = t at h9 ⊢; unfold wrap64 at h9; exact h9
          rw [← hy] at F2
          have hjI : (j : Int) < (k : Int) := by omega
          have HY := Lib.hid hyb
          clear hcell hcell' hx hx1 hx2 hy hyb hxi
          go_wp2_with fail
          refine ah_start 11 (fun w' => Below w2.heap.size w2 w') rfl (by kernel_rfl) hnj.drew ?_
          intro hS
          (refine mv_val 0 (v := ?_) rfl (by kernel_rfl) (by kernel_rfl) (by kernel_rfl) (fun _ _ _ h => h) (by rfl) hS ?_ ?_; rotate_left; (focus (intro w hSw; (try dsimp only at hSw); (have f1 := F1 w hSw; have f2 := F2 w hSw; have f3 := hjI; have f4 := HY.out); go_simp; first | done | with_reducible rfl)); simp only [Act.put, List.setIfInBounds_toArray, List.set_cons_zero, List.set_cons_succ])
          (refine mv_val 1 (v := ?_) rfl (by kernel_rfl) (by kernel_rfl) (by kernel_rfl) (fun _ _ _ h => h) (by rfl) hS ?_ ?_; rotate_left; (focus (intro w hSw; (try dsimp only at hSw); (have f1 := F1 w hSw; have f2 := F2 w hSw; have f3 := hjI; have f4 := HY.out); go_simp; first | done | with_reducible rfl)); simp only [Act.put, List.setIfInBounds_toArray, List.set_cons_zero, List.set_cons_succ])
          (refine mv_val 2 (v := ?_) rfl (by kernel_rfl) (by kernel_rfl) (by kernel_rfl) (fun _ _ _ h => h) (by rfl) hS ?_ ?_; rotate_left; (focus (intro w hSw; (try dsimp only at hSw); (have f1 := F1 w hSw; have f2 := F2 w hSw; have f3 := hjI; have f4 := HY.out); go_simp; first | done | with_reducible rfl)); simp only [Act.put, List.setIfInBounds_toArray, List.set_cons_zero, List.set_cons_succ])
          (refine mv_val 3 (v := ?_) rfl (by kernel_rfl) (by kernel_rfl) (by kernel_rfl) (fun _ _ _ h => h) (by rfl) hS ?_ ?_; rotate_left; (focus (intro w hSw; (try dsimp only at hSw); (have f1 := F1 w hSw; have f2 := F2 w hSw; have f3 := hjI; have f4 := HY.out); go_simp; first | done | with_reducible rfl)); simp only [Act.put, List.setIfInBounds_toArray, List.set_cons_zero, List.set_cons_succ])
          (refine mv_val 4 (v := ?_) rfl (by kernel_rfl) (by kernel_rfl) (by kernel_rfl) (fun _ _ _ h => h) (by rfl) hS ?_ ?_; rotate_left; (focus (intro w hSw; (try dsimp only at hSw); (have f1 := F1 w hSw; have f2 := F2 w hSw; have f3 := hjI; have f4 := HY.out); go_simp; first | done | with_reducible rfl)); simp only [Act.put, List.setIfInBounds_toArray, List.set_cons_zero, List.set_cons_succ])
          (refine mv_val 5 (v := ?_) rfl (by kernel_rfl) (by kernel_rfl) (by kernel_rfl) (fun _ _ _ h => h) (by rfl) hS ?_ ?_; rotate_left; (focus (intro w hSw; (try dsimp only at hSw); (have f1 := F1 w hSw; have f2 := F2 w hSw; have f3 := hjI; have f4 := HY.out); go_simp; first | done | with_reducible rfl)); simp only [Act.put, List.setIfInBounds_toArray, List.set_cons_zero, List.set_cons_succ])
          (refine mv_val 6 (v := ?_) rfl (by kernel_rfl) (by kernel_rfl) (by kernel_rfl) (fun _ _ _ h => h) (by rfl) hS ?_ ?_; rotate_left; (focus (intro w hSw; (try dsimp only at hSw); (have f1 := F1 w hSw; have f2 := F2 w hSw; have f3 := hjI; have f4 := HY.out); go_simp; first | done | with_reducible rfl)); simp only [Act.put, List.setIfInBounds_toArray, List.set_cons_zero, List.set_cons_succ])
          (refine mv_val 7 (v := ?_) rfl (by kernel_rfl) (by kernel_rfl) (by kernel_rfl) (fun _ _ _ h => h) (by rfl) hS ?_ ?_; rotate_left; (focus (intro w hSw; (try dsimp only at hSw); (have f1 := F1 w hSw; have f2 := F2 w hSw; have f3 := hjI; have f4 := HY.out); go_simp; first | done | with_reducible rfl)); simp only [Act.put, List.setIfInBounds_toArray, List.set_cons_zero, List.set_cons_succ])
          (refine mv_val 8 (v := ?_) rfl (by kernel_rfl) (by kernel_rfl) (by kernel_rfl) (fun _ _ _ h => h) (by rfl) hS ?_ ?_; rotate_left; (focus (intro w hSw; (try dsimp only at hSw); (have f1 := F1 w hSw; have f2 := F2 w hSw; have f3 := hjI; have f4 := HY.out); go_simp; first | done | with_reducible rfl)); simp only [Act.put, List.setIfInBounds_toArray, List.set_cons_zero, List.set_cons_succ])
          (refine mv_val 9 (v := ?_) rfl (by kernel_rfl) (by kernel_rfl) (by kernel_rfl) (fun _ _ _ h => h) (by rfl) hS ?_ ?_; rotate_left; (focus (intro w hSw; (try dsimp only at hSw); (have f1 := F1 w hSw; have f2 := F2 w hSw; have f3 := hjI; have f4 := HY.out); go_simp; first | done | with_reducible rfl)); simp only [Act.put, List.setIfInBounds_toArray, List.set_cons_zero, List.set_cons_succ])
          (refine mv_val 10 (v := ?_) rfl (by kernel_rfl) (by kernel_rfl) (by kernel_rfl) (fun _ _ _ h => h) (by rfl) hS ?_ ?_; rotate_left; (focus (intro w hSw; (try dsimp only at hSw); (have f1 := F1 w hSw; have f2 := F2 w hSw; have f3 := hjI; have f4 := HY.out); go_simp; first | done | with_reducible rfl)); simp only [Act.put, List.setIfInBounds_toArray, List.set_cons_zero, List.set_cons_succ])
          refine wpAnyH_done (by kernel_rfl) ?_ _
          go_wp2_with fail
          go_roundw
          case rel => exact ⟨j + 1, by omega, by go_num, hS⟩
          case measure => simp [intOf]; omega
        · have hjk' : j = k := by omega
          subst hjk'
          go_wp2_with fail
          refine (puts5_any _).mono ?_; rintro e w4 ⟨rfl, bl4⟩
          go_wp2_with fail
          go_ret
          exact ⟨rfl, b2.trans ((hnj.trans (bl4.mono hnj.size)).mono hz2)⟩
end Go.Proofs.Ytepffjaomjpnpaa

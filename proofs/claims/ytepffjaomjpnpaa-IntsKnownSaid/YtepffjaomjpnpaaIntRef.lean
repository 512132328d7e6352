/- The walks of the reference of layer 5: Changes, Put, Same answer what the plain functions say. For rows of at most 2^32. -/
import Derived.Test.YtepffjaomjpnpaaIntP2
import Derived.Test.YtepffjaomjpnpaaIntGet
import Derived.Test.YtepffjaomjpnpaaMove
namespace Go.Proofs.Ytepffjaomjpnpaa
open Go.RowKit
set_option linter.unusedVariables false
set_option linter.unusedSimpArgs false

abbrev ucells (l : List Int) : List Value := l.map fun c => Value.int .u64 (toU c)
theorem Try.infoU64 : (Try.prog.info? 43).map (fun i => (i.zero, i.size, i.bytes)) = some (some (.int .u64 0), 1, 8) := by kernel_rfl
theorem El_u64 : El Try.prog 45 43 1 8 := el_of Try.underlying45 Try.infoU64 rfl (by decide)
theorem ucells_snoc (l : List Int) (c : Int) : ucells (l ++ [c]) = ucells l ++ [.int .u64 (toU c)] := by simp [ucells]

set_option maxHeartbeats 2000000 in
set_option maxRecDepth 100000 in
theorem rChanges_any (B : Nat) (A : Option Addr) (c : Nat) (l : List Int) (w : World) (h : Rd w B A (num l)) (hB : B ≤ w.heap.size) (hl : l.length ≤ 4294967296) :
    Calls Try.prog 18 #[.slice A l.length c] w fun e w' => ∃ A' c', e = .returned (.slice A' l.length c') ∧ w'.ownsRow w.heap.size 43 1 (.slice A' l.length c') l.length (ucells (chg 0 0 l)) ∧ Below w.heap.size w w' := by
  go_enter Try.func18, Try.ntmps18
  go_wp2
  go_loopw [3, 4] (fun v3 v4 wr => ∃ k : Nat, k ≤ l.length ∧ v4 = .int .i64 k ∧ wr.ownsRow w.heap.size 43 1 v3 k (ucells (chg 0 0 (l.take k))) ∧ Below w.heap.size w wr)
    (fun _ v4 _ => l.length - (intOf v4).toNat)
  case atStart => exact ⟨0, by omega, rfl, World.ownsRow_nil _ _ _ _, Below.refl _ _⟩
  case round =>
    obtain ⟨k, hk, rfl, hown, hnx⟩ := hrel
    obtain ⟨A3, c3, rfl, hc3⟩ := own_form hown
    by_cases hlt : k < l.length
    · obtain ⟨b, o, rfl, hb, hcell⟩ := h.at (k := k) (by simpa using hlt)
      have hcl : ∀ j (hj : j < l.length), wr.cell? ⟨b, o + j, none⟩ = some (.int .i64 l[j]) := fun j hj => (hnx.cell (p := ⟨b, o + j, none⟩) (by show b < _; omega)).trans (hcell j _ (by simp [hj]))
      have hck := hcl k hlt
      obtain ⟨x, hx⟩ : ∃ x, x = l[k] := ⟨_, rfl⟩
      rw [← hx] at hck
      have hts : chg 0 0 (l.take (k + 1)) = chg 0 0 (l.take k) ++ [wrap64 (wrap64 (x - (cst 0 0 (l.take k)).1) - (cst 0 0 (l.take k)).2)] := by
        rw [take_snoc l k hlt, chg_snoc, hx]
      have HT := Lib.hid hts
      have HC := Lib.hid hcl
      clear hts hcl hcell hx
      have hwu := wrapU
      rcases Nat.lt_or_ge k 2 with h2 | h2
      · rcases Nat.lt_or_ge k 1 with h1 | h1
        · have hk0 : k = 0 := by omega
          subst hk0
          rw [Nat.add_zero] at hck
          go_wp2_with (at_builtin; refine wpList_app El_u64 rfl _ _ rfl (hown.alloc _) rfl rfl (by exact rd_one _ _ _ _ _ rfl (Nat.lt_add_one _)) rfl one_int (by unfold maxLen; omega) (by omega) (by have := hnx.size; simp; omega) ?_; intro v2 w2 hown2 hg2 _)
          have hb2 : Below w.heap.size w w2 := (hnx.alloc hnx.size _).trans (own_below (hown.alloc _) hg2 (by have := hnx.size; simp; omega))
          go_roundw
          case rel =>
            refine ⟨1, by omega, by go_num, ?_, hb2⟩
            have := HT.out
            rw [Nat.zero_add] at this
            rw [this, ucells_snoc, List.take_zero, show cst 0 0 [] = (0, 0) from rfl, step0]
            have e : toU (toU (toU x)) = toU x := by unfold toU; omega
            rw [e, List.take_zero] at hown2
            simpa using hown2
          case measure => simp [intOf]; omega
        · have hk1 : k = 1 := by omega
          subst hk1
          have hc0 := HC.out 0 (by omega)
          obtain ⟨y, hy⟩ : ∃ y, y = l[0] := ⟨_, rfl⟩
          rw [← hy, Nat.add_zero] at hc0
          have hcs : cst 0 0 (l.take 1) = (y, wrap64 (y - 0)) := by
            rw [show (1 : Nat) = 0 + 1 from rfl, take_snoc l 0 (by omega), cst_snoc, hy]; rfl
          have HS := Lib.hid hcs
          clear hcs hy
          go_wp2_with (at_builtin; refine wpList_app El_u64 rfl _ _ rfl (hown.alloc _) rfl rfl (by exact rd_one _ _ _ _ _ rfl (Nat.lt_add_one _)) rfl one_int (by unfold maxLen; omega) (by omega) (by have := hnx.size; simp; omega) ?_; intro v2 w2 hown2 hg2 _)
          have hb2 : Below w.heap.size w w2 := (hnx.alloc hnx.size _).trans (own_below (hown.alloc _) hg2 (by have := hnx.size; simp; omega))
          go_roundw
          case rel =>
            refine ⟨1 + 1, by omega, by go_num, ?_, hb2⟩
            rw [HT.out, ucells_snoc, HS.out, step1]
            simpa using hown2
          case measure => simp [intOf]; omega
      · obtain ⟨p, rfl⟩ : ∃ p, k = p + 2 := ⟨k - 2, by omega⟩
        have hc0 := HC.out p (by omega)
        have hc1 := HC.out (p + 1) (by omega)
        obtain ⟨y, hy⟩ : ∃ y, y = l[p + 1] := ⟨_, rfl⟩
        obtain ⟨z, hz⟩ : ∃ y, y = l[p] := ⟨_, rfl⟩
        rw [← hy] at hc1
        rw [← hz] at hc0
        have hcs : cst 0 0 (l.take (p + 2)) = (y, wrap64 (y - z)) := by
          rw [take_snoc l (p + 1) (by omega), cst_snoc, take_snoc l p (by omega), cst_snoc, hy, hz]
        have HS := Lib.hid hcs
        clear hcs hy hz h2
        go_wp2_with (at_builtin; refine wpList_app El_u64 rfl _ _ rfl (hown.alloc _) rfl rfl (by exact rd_one _ _ _ _ _ rfl (Nat.lt_add_one _)) rfl one_int (by unfold maxLen; omega) (by omega) (by have := hnx.size; simp; omega) ?_; intro v2 w2 hown2 hg2 _)
        have hb2 : Below w.heap.size w w2 := (hnx.alloc hnx.size _).trans (own_below (hown.alloc _) hg2 (by have := hnx.size; simp; omega))
        go_roundw
        case rel =>
          refine ⟨p + 2 + 1, by omega, by go_num, ?_, hb2⟩
          rw [HT.out, ucells_snoc, HS.out, step2]
          simpa using hown2
        case measure => simp [intOf]; omega
    · have hkk : k = l.length := by omega
      subst hkk
      rw [List.take_length] at hown
      go_wp2
      go_ret
      exact ⟨_, _, rfl, hown, hnx⟩

set_option maxHeartbeats 2000000 in
set_option maxRecDepth 100000 in
theorem rSame_any (B : Nat) (A A' : Option Addr) (c c' : Nat) (l m : List Int) (w : World) (h : Rd w B A (num l)) (h' : Rd w B A' (num m)) (hl : l.length ≤ 4294967296) :
    Calls Try.prog 11 #[.slice A l.length c, .slice A' m.length c'] w fun e w' => e = .returned (.bool (decide (l = m))) ∧ Below B w w' := by
  by_cases hlen : l.length = m.length
  case neg =>
    have hd : decide (l = m) = false := by simp; rintro rfl; exact hlen rfl
    rw [hd]
    have hne : ((l.length : Int) != (m.length : Int)) = true := by simp; omega
    clear hd
    go_enter Try.func11, Try.ntmps11
    go_wp2
    go_ret
    exact ⟨rfl, Below.refl _ _⟩
  obtain ⟨N, hN⟩ : ∃ N, N = l.length := ⟨_, rfl⟩
  have HLM := Lib.hid hlen
  have HN := Lib.hid hN
  rw [← hlen, ← hN]
  rw [← hN] at hl
  clear hlen hN
  obtain ⟨res, hres⟩ : ∃ b, b = decide (l = m) := ⟨_, rfl⟩
  rw [← hres]
  have HR := Lib.hid hres
  clear hres
  go_enter Try.func11, Try.ntmps11
  go_wp2
  go_loopw [5] (fun v5 wr => ∃ k : Nat, k ≤ N ∧ v5 = .int .i64 k ∧ (∀ j, j < k → l[j]? = m[j]?) ∧ Below B w wr)
    (fun v5 _ => N - (intOf v5).toNat)
  case atStart => exact ⟨0, by omega, rfl, by simp, Below.refl _ _⟩
  case round =>
    obtain ⟨k, hk, rfl, hall, hnx⟩ := hrel
    have HA := Lib.hid hall
    clear hall
    by_cases hlt : k < N
    · have hkl : k < l.length := by rw [← HN.out]; exact hlt
      have hkm : k < m.length := by rw [← HLM.out]; exact hkl
      obtain ⟨b, o, rfl, hb, hcell⟩ := h.at (k := k) (by simpa using hkl)
      obtain ⟨b', o', rfl, hb', hcell'⟩ := h'.at (k := k) (by simpa using hkm)
      obtain ⟨x, hxe⟩ : ∃ x, l[k]? = some x := ⟨_, List.getElem?_eq_getElem hkl⟩
      obtain ⟨y, hye⟩ : ∃ x, m[k]? = some x := ⟨_, List.getElem?_eq_getElem hkm⟩
      have hx := hcell k (.int .i64 x) (by rw [List.getElem?_map, hxe]; rfl)
      have hy := hcell' k (.int .i64 y) (by rw [List.getElem?_map, hye]; rfl)
      have HX := Lib.hid hxe
      have HY := Lib.hid hye
      clear hxe hye hcell hcell' hkl hkm
      have F1 : ∀ w', Below B w w' → w'.cell? ⟨b, o + k, none⟩ = some (.int .i64 x) := fun w' hw => (hw.cell (p := ⟨b, o + k, none⟩) hb).trans hx
      have F2 : ∀ w', Below B w w' → w'.cell? ⟨b', o' + k, none⟩ = some (.int .i64 y) := fun w' hw => (hw.cell (p := ⟨b', o' + k, none⟩) hb').trans hy
      have hkI : (k : Int) < (N : Int) := by omega
      by_cases hxy : x = y
      · subst hxy
        go_wp2_with fail
        refine ah_start 9 (fun w' => Below B w w') rfl (by kernel_rfl) hnx.drew ?_
        intro hS
        (refine mv_val 0 (v := ?_) rfl (by kernel_rfl) (by kernel_rfl) (by kernel_rfl) (fun _ _ _ h => h) (by rfl) hS ?_ ?_; rotate_left; (focus (intro w hSw; (try dsimp only at hSw); (have f1 := F1 w hSw; have f2 := F2 w hSw; have f3 := hkI); go_simp; first | done | with_reducible rfl)); simp only [Act.put, List.setIfInBounds_toArray, List.set_cons_zero, List.set_cons_succ])
        (refine mv_val 1 (v := ?_) rfl (by kernel_rfl) (by kernel_rfl) (by kernel_rfl) (fun _ _ _ h => h) (by rfl) hS ?_ ?_; rotate_left; (focus (intro w hSw; (try dsimp only at hSw); (have f1 := F1 w hSw; have f2 := F2 w hSw; have f3 := hkI); go_simp; first | done | with_reducible rfl)); simp only [Act.put, List.setIfInBounds_toArray, List.set_cons_zero, List.set_cons_succ])
        (refine mv_val 2 (v := ?_) rfl (by kernel_rfl) (by kernel_rfl) (by kernel_rfl) (fun _ _ _ h => h) (by rfl) hS ?_ ?_; rotate_left; (focus (intro w hSw; (try dsimp only at hSw); (have f1 := F1 w hSw; have f2 := F2 w hSw; have f3 := hkI); go_simp; first | done | with_reducible rfl)); simp only [Act.put, List.setIfInBounds_toArray, List.set_cons_zero, List.set_cons_succ])
        (refine mv_val 3 (v := ?_) rfl (by kernel_rfl) (by kernel_rfl) (by kernel_rfl) (fun _ _ _ h => h) (by rfl) hS ?_ ?_; rotate_left; (focus (intro w hSw; (try dsimp only at hSw); (have f1 := F1 w hSw; have f2 := F2 w hSw; have f3 := hkI); go_simp; first | done | with_reducible rfl)); simp only [Act.put, List.setIfInBounds_toArray, List.set_cons_zero, List.set_cons_succ])
        (refine mv_val 4 (v := ?_) rfl (by kernel_rfl) (by kernel_rfl) (by kernel_rfl) (fun _ _ _ h => h) (by rfl) hS ?_ ?_; rotate_left; (focus (intro w hSw; (try dsimp only at hSw); (have f1 := F1 w hSw; have f2 := F2 w hSw; have f3 := hkI); go_simp; first | done | with_reducible rfl)); simp only [Act.put, List.setIfInBounds_toArray, List.set_cons_zero, List.set_cons_succ])
        (refine mv_val 5 (v := ?_) rfl (by kernel_rfl) (by kernel_rfl) (by kernel_rfl) (fun _ _ _ h => h) (by rfl) hS ?_ ?_; rotate_left; (focus (intro w hSw; (try dsimp only at hSw); (have f1 := F1 w hSw; have f2 := F2 w hSw; have f3 := hkI); go_simp; first | done | with_reducible rfl)); simp only [Act.put, List.setIfInBounds_toArray, List.set_cons_zero, List.set_cons_succ])
        (refine mv_val 6 (v := ?_) rfl (by kernel_rfl) (by kernel_rfl) (by kernel_rfl) (fun _ _ _ h => h) (by rfl) hS ?_ ?_; rotate_left; (focus (intro w hSw; (try dsimp only at hSw); (have f1 := F1 w hSw; have f2 := F2 w hSw; have f3 := hkI); go_simp; first | done | with_reducible rfl)); simp only [Act.put, List.setIfInBounds_toArray, List.set_cons_zero, List.set_cons_succ])
        (refine mv_val 7 (v := ?_) rfl (by kernel_rfl) (by kernel_rfl) (by kernel_rfl) (fun _ _ _ h => h) (by rfl) hS ?_ ?_; rotate_left; (focus (intro w hSw; (try dsimp only at hSw); (have f1 := F1 w hSw; have f2 := F2 w hSw; have f3 := hkI); go_simp; first | done | with_reducible rfl)); simp only [Act.put, List.setIfInBounds_toArray, List.set_cons_zero, List.set_cons_succ])
        (refine mv_val 8 (v := ?_) rfl (by kernel_rfl) (by kernel_rfl) (by kernel_rfl) (fun _ _ _ h => h) (by rfl) hS ?_ ?_; rotate_left; (focus (intro w hSw; (try dsimp only at hSw); (have f1 := F1 w hSw; have f2 := F2 w hSw; have f3 := hkI); go_simp; first | done | with_reducible rfl)); simp only [Act.put, List.setIfInBounds_toArray, List.set_cons_zero, List.set_cons_succ])
        refine wpAnyH_done (by kernel_rfl) ?_ _
        go_wp2_with fail
        go_roundw
        case rel =>
          refine ⟨k + 1, by omega, by go_num, fun j hj => ?_, hS⟩
          rcases Nat.lt_or_ge j k with h1 | h1
          · exact HA.out j h1
          · have : j = k := by omega
            subst this
            rw [HX.out, HY.out]
        case measure => simp [intOf]; omega
      · have hr : res = false := by
          rw [HR.out]
          simp
          rintro rfl
          have := HX.out.symm.trans HY.out
          exact hxy (Option.some.inj this)
        subst hr
        go_wp2_with fail
        refine ah_start 9 (fun w' => Below B w w') rfl (by kernel_rfl) hnx.drew ?_
        intro hS
        (refine mv_val 0 (v := ?_) rfl (by kernel_rfl) (by kernel_rfl) (by kernel_rfl) (fun _ _ _ h => h) (by rfl) hS ?_ ?_; rotate_left; (focus (intro w hSw; (try dsimp only at hSw); (have f1 := F1 w hSw; have f2 := F2 w hSw; have f3 := hkI; have f4 := hxy); go_simp; first | done | with_reducible rfl)); simp only [Act.put, List.setIfInBounds_toArray, List.set_cons_zero, List.set_cons_succ])
        (refine mv_val 1 (v := ?_) rfl (by kernel_rfl) (by kernel_rfl) (by kernel_rfl) (fun _ _ _ h => h) (by rfl) hS ?_ ?_; rotate_left; (focus (intro w hSw; (try dsimp only at hSw); (have f1 := F1 w hSw; have f2 := F2 w hSw; have f3 := hkI; have f4 := hxy); go_simp; first | done | with_reducible rfl)); simp only [Act.put, List.setIfInBounds_toArray, List.set_cons_zero, List.set_cons_succ])
        (refine mv_val 2 (v := ?_) rfl (by kernel_rfl) (by kernel_rfl) (by kernel_rfl) (fun _ _ _ h => h) (by rfl) hS ?_ ?_; rotate_left; (focus (intro w hSw; (try dsimp only at hSw); (have f1 := F1 w hSw; have f2 := F2 w hSw; have f3 := hkI; have f4 := hxy); go_simp; first | done | with_reducible rfl)); simp only [Act.put, List.setIfInBounds_toArray, List.set_cons_zero, List.set_cons_succ])
        (refine mv_val 3 (v := ?_) rfl (by kernel_rfl) (by kernel_rfl) (by kernel_rfl) (fun _ _ _ h => h) (by rfl) hS ?_ ?_; rotate_left; (focus (intro w hSw; (try dsimp only at hSw); (have f1 := F1 w hSw; have f2 := F2 w hSw; have f3 := hkI; have f4 := hxy); go_simp; first | done | with_reducible rfl)); simp only [Act.put, List.setIfInBounds_toArray, List.set_cons_zero, List.set_cons_succ])
        (refine mv_val 4 (v := ?_) rfl (by kernel_rfl) (by kernel_rfl) (by kernel_rfl) (fun _ _ _ h => h) (by rfl) hS ?_ ?_; rotate_left; (focus (intro w hSw; (try dsimp only at hSw); (have f1 := F1 w hSw; have f2 := F2 w hSw; have f3 := hkI; have f4 := hxy); go_simp; first | done | with_reducible rfl)); simp only [Act.put, List.setIfInBounds_toArray, List.set_cons_zero, List.set_cons_succ])
        (refine mv_val 5 (v := ?_) rfl (by kernel_rfl) (by kernel_rfl) (by kernel_rfl) (fun _ _ _ h => h) (by rfl) hS ?_ ?_; rotate_left; (focus (intro w hSw; (try dsimp only at hSw); (have f1 := F1 w hSw; have f2 := F2 w hSw; have f3 := hkI; have f4 := hxy); go_simp; first | done | with_reducible rfl)); simp only [Act.put, List.setIfInBounds_toArray, List.set_cons_zero, List.set_cons_succ])
        (refine mv_val 6 (v := ?_) rfl (by kernel_rfl) (by kernel_rfl) (by kernel_rfl) (fun _ _ _ h => h) (by rfl) hS ?_ ?_; rotate_left; (focus (intro w hSw; (try dsimp only at hSw); (have f1 := F1 w hSw; have f2 := F2 w hSw; have f3 := hkI; have f4 := hxy); go_simp; first | done | with_reducible rfl)); simp only [Act.put, List.setIfInBounds_toArray, List.set_cons_zero, List.set_cons_succ])
        (refine mv_val 7 (v := ?_) rfl (by kernel_rfl) (by kernel_rfl) (by kernel_rfl) (fun _ _ _ h => h) (by rfl) hS ?_ ?_; rotate_left; (focus (intro w hSw; (try dsimp only at hSw); (have f1 := F1 w hSw; have f2 := F2 w hSw; have f3 := hkI; have f4 := hxy); go_simp; first | done | with_reducible rfl)); simp only [Act.put, List.setIfInBounds_toArray, List.set_cons_zero, List.set_cons_succ])
        (refine mv_val 8 (v := ?_) rfl (by kernel_rfl) (by kernel_rfl) (by kernel_rfl) (fun _ _ _ h => h) (by rfl) hS ?_ ?_; rotate_left; (focus (intro w hSw; (try dsimp only at hSw); (have f1 := F1 w hSw; have f2 := F2 w hSw; have f3 := hkI; have f4 := hxy); go_simp; first | done | with_reducible rfl)); simp only [Act.put, List.setIfInBounds_toArray, List.set_cons_zero, List.set_cons_succ])
        refine wpAnyH_done (by kernel_rfl) ?_ _
        go_wp2_with fail
        go_ret
        exact ⟨rfl, hS⟩
    · have hr : res = true := by
        rw [HR.out]
        simp
        refine List.ext_getElem? fun j => ?_
        rcases Nat.lt_or_ge j k with h1 | h1
        · exact HA.out j h1
        · have e1 := HN.out
          have e2 := HLM.out
          rw [List.getElem?_eq_none (by omega), List.getElem?_eq_none (by omega)]
      subst hr
      go_wp2
      go_ret
      exact ⟨rfl, hnx⟩
end Go.Proofs.Ytepffjaomjpnpaa

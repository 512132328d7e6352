/- Joined texts: see the remark ahead of each part. No condition but those that the parts name. -/
import Derived.Test.YthkpgjcnnfdibaaSga
import Derived.Test.YthkpgjcnnfdibaaRwb
import Derived.Test.YthkpgjcnnfdibaaCoL
import Derived.Test.YthkpgjcnnfdibaaCoE
/-! The walk of segment.turned (layer 7): rows as columns. For rows of the right length. Printed by gen_sg3.py. -/
namespace Go.Proofs.Ythkpgjcnnfdibaa
open Go.RowKit Go.Maps
set_option linter.unusedVariables false
set_option linter.unusedSimpArgs false

/-- columns as they grow: all before i whole, k values of column i -/
def stCols (m : Nat) (rows : List (List V)) (i k : Nat) : List (List V) := (List.range m).map fun j => if j < i then colAt rows j else if j = i then (colAt rows i).take k else []
theorem stCols_length (m : Nat) (rows : List (List V)) (i k : Nat) : (stCols m rows i k).length = m := by simp [stCols]
theorem stCols_get {m j : Nat} (rows : List (List V)) (i k : Nat) (h : j < m) : (stCols m rows i k)[j]? = some (if j < i then colAt rows j else if j = i then (colAt rows i).take k else []) := by simp [stCols, List.getElem?_map, List.getElem?_range h]
theorem stCols_0 (m : Nat) (rows : List (List V)) : stCols m rows 0 0 = List.replicate m [] := by
  apply List.ext_getElem?
  intro j
  rcases Nat.lt_or_ge j m with h | h
  · rw [stCols_get _ _ _ h, List.getElem?_replicate, if_pos h]; simp
  · rw [List.getElem?_eq_none (by rw [stCols_length]; exact h), List.getElem?_eq_none (by simpa using h)]
theorem stCols_at {m i : Nat} (rows : List (List V)) (k : Nat) (h : i < m) : (stCols m rows i k)[i]? = some ((colAt rows i).take k) := by rw [stCols_get _ _ _ h]; simp
theorem stCols_set {m i k : Nat} (rows : List (List V)) (h : i < m) : (stCols m rows i k).set i ((colAt rows i).take (k + 1)) = stCols m rows i (k + 1) := by
  apply List.ext_getElem?
  intro j
  rw [List.getElem?_set, stCols_length]
  rcases Nat.lt_or_ge j m with hj | hj
  · rw [stCols_get _ _ _ hj, stCols_get _ _ _ hj]
    by_cases hij : i = j
    · subst hij; simp [h]
    · simp [hij, Ne.symm hij]
  · rw [List.getElem?_eq_none (by rw [stCols_length]; exact hj), List.getElem?_eq_none (by rw [stCols_length]; exact hj), if_neg (by omega)]
theorem stCols_next {m i : Nat} (rows : List (List V)) : stCols m rows i rows.length = stCols m rows (i + 1) 0 := by
  unfold stCols
  refine List.map_congr_left fun j _ => ?_
  by_cases h1 : j < i
  · simp [h1, show j < i + 1 by omega]
  · by_cases h2 : j = i
    · subst h2
      simp [List.take_of_length_le, colAt_length]
    · simp [h1, h2, show ¬ j < i + 1 by omega]
theorem stCols_end (m : Nat) (rows : List (List V)) : stCols m rows m 0 = colsOf m rows := by
  unfold stCols colsOf
  refine List.map_congr_left fun j hj => ?_
  rw [List.mem_range] at hj
  simp [hj]

set_option maxHeartbeats 4000000 in
set_option maxRecDepth 100000 in
theorem turned_any (B : Nat) (A A' : Option Addr) (m c c' : Nat) (rows : List (List V)) (w : World) (hr : RdVV w B A' rows) (hB : B ≤ w.heap.size) (hm : m ≤ 1000000) (hl : rows.length ≤ 1000000) (hrl : ∀ r ∈ rows, r.length = m) :
    Calls Try.prog 27 #[.slice A m c, .slice A' rows.length c'] w (RetVV w (colsOf m rows)) := by
  obtain ⟨by_, HEL, hby⟩ := El_val
  obtain ⟨w1, hmk, hown1, hb1⟩ := make_vv w m (by omega)
  rw [← stCols_0 m rows] at hown1
  obtain ⟨g, hg⟩ : ∃ g, g = w.heap.size := ⟨_, rfl⟩
  have HG := Lib.hid hg
  have HRL := Lib.hid hrl
  clear hrl
  go_enter Try.func27, Try.ntmps27
  go_wp2_with fail
  rw [← hg] at hown1 ⊢
  clear hg hmk
  go_loopw [14] (fun v14 wr => ∃ i : Nat, i ≤ m ∧ v14 = .int .i64 i ∧ OwnVV wr g (.slice (some ⟨g, 0, none⟩) m m) (stCols m rows i 0) ∧ Below w.heap.size w wr) (fun v14 _ => m - (intOf v14).toNat)
  case atStart => exact ⟨0, by omega, rfl, hown1, hb1⟩
  case round =>
    obtain ⟨i, hi, rfl, hown, hbel⟩ := hrel
    clear hown1 hb1
    by_cases hlt : i < m
    case neg =>
      have hkk : i = m := by omega
      have hge : (m : Int) ≤ (i : Int) := by omega
      rw [hkk, stCols_end, HG.out] at hown
      have HO := Lib.hid hown
      clear hown hkk
      go_wp2_with fail
      go_ret
      rw [HG.out]
      exact retVV_of HO.out hbel
    have hiI : (i : Int) < (m : Int) := by omega
    go_wp2_with fail
    obtain ⟨wq, hwq⟩ : ∃ w2, w2 = wr := ⟨_, rfl⟩
    subst hwq
    go_loopw [19] (fun v19 wr => ∃ k : Nat, k ≤ rows.length ∧ v19 = .int .i64 k ∧ OwnVV wr g (.slice (some ⟨g, 0, none⟩) m m) (stCols m rows i k) ∧ Below w.heap.size w wr) (fun v19 _ => rows.length - (intOf v19).toNat)
    case atStart => exact ⟨0, by omega, rfl, hown, hbel⟩
    case round =>
      obtain ⟨k, hk, rfl, hown2, hbel2⟩ := hrel
      clear hown hbel
      by_cases hlk : k < rows.length
      case neg =>
        have hkk : k = rows.length := by omega
        have hge : (rows.length : Int) ≤ (k : Int) := by omega
        rw [hkk, stCols_next] at hown2
        have HO := Lib.hid hown2
        clear hown2 hkk
        go_wp2_with fail
        go_roundw
        case rel => exact ⟨i + 1, by omega, by go_num, HO.out, hbel2⟩
        case measure => simp [intOf]; omega
      obtain ⟨r, hr0⟩ : ∃ r, rows[k]? = some r := ⟨_, List.getElem?_eq_getElem hlk⟩
      have hrl := HRL.out r (List.mem_of_getElem? hr0)
      obtain ⟨v, hv⟩ : ∃ v, r[i]? = some v := ⟨_, List.getElem?_eq_getElem (by omega)⟩
      obtain ⟨ga, oa, a1, ca, rfl, hga, q0, hca, hra⟩ := rdN_at hr hr0
      obtain ⟨gr, or, rfl, hgr, p0, p1, p2⟩ := rd_val hra hv
      have q1 := (hbel2.cell (p := ⟨ga, oa + k, none⟩) (by show ga < _; omega)).trans q0
      have F1 : ∀ w', Below w.heap.size w w' → w'.cell? ⟨gr, or + i * 3, none⟩ = some (.int .u8 (v.k : Int)) ∧ w'.cell? ⟨gr, or + i * 3 + 1, none⟩ = some (.int .i64 v.n) ∧ w'.cell? ⟨gr, or + i * 3 + 2, none⟩ = some (txt v.t) := fun w' hb => ⟨(hb.cell (p := ⟨gr, or + i * 3, none⟩) (by show gr < _; omega)).trans p0, (hb.cell (p := ⟨gr, or + i * 3 + 1, none⟩) (by show gr < _; omega)).trans p1, (hb.cell (p := ⟨gr, or + i * 3 + 2, none⟩) (by show gr < _; omega)).trans p2⟩
      have hat := stCols_at rows k hlt
      have HCT := Lib.hid (colAt_take hr0 hv)
      have HST := Lib.hid (stCols_set (k := k) rows hlt)
      obtain ⟨C, hC⟩ : ∃ C, C = (colAt rows i).take k := ⟨_, rfl⟩
      have hCl : C.length ≤ 1000000 := by rw [hC, List.length_take, colAt_length]; omega
      rw [← hC] at hat HCT
      have HAT := Lib.hid hat
      have hkI : (k : Int) < (rows.length : Int) := by omega
      have hir : i < r.length := by omega
      have hirI : (i : Int) < (r.length : Int) := by omega
      obtain ⟨we, hwe⟩ : ∃ we, we = wr.drew := ⟨_, rfl⟩
      have ownE : OwnVV we g (.slice (some ⟨g, 0, none⟩) m m) (stCols m rows i k) := by rw [hwe]; exact hown2
      have belE : Below w.heap.size w we := by rw [hwe]; exact hbel2.drew
      obtain ⟨s, sc, sf, sn, scap, so⟩ := ownE.at HAT.out
      have hgs : g < we.heap.size := cell_lt sc
      obtain ⟨s1, s2, s3⟩ := s
      dsimp only at sn
      subst sn
      simp only [sl3] at sc so
      have hgw : w.heap.size ≤ g := by have := HG.out; omega
      clear q0 p0 p1 p2 hr0 hv hC hat hown2 hra scap
      go_wp2_with fail
      refine ah_start 14 (fun w' => Below w.heap.size w w') rfl (by kernel_rfl) hbel2.drew ?_ ; intro hS
      rw [← hwe]
      rw [← hwe] at hS
      clear hwe hbel2 q1
      (refine mv_val 0 (v := ?_) rfl (by kernel_rfl) (by kernel_rfl) (by kernel_rfl) (fun _ _ _ h => h) (by rfl) hS ?_ ?_; rotate_left; (focus (intro w hSw; (try dsimp only at hSw); (have f1 := (F1 w hSw).1; have f2 := (F1 w hSw).2.1; have f3 := (F1 w hSw).2.2; have f4 := hir; have f5 := hirI; have f6 := hlt; have f7 := hiI); go_simp; first | done | with_reducible rfl)); simp only [Act.put, List.setIfInBounds_toArray, List.set_cons_zero, List.set_cons_succ])
      (refine mv_val 1 (v := ?_) rfl (by kernel_rfl) (by kernel_rfl) (by kernel_rfl) (fun _ _ _ h => h) (by rfl) hS ?_ ?_; rotate_left; (focus (intro w hSw; (try dsimp only at hSw); (have f1 := (F1 w hSw).1; have f2 := (F1 w hSw).2.1; have f3 := (F1 w hSw).2.2; have f4 := hir; have f5 := hirI; have f6 := hlt; have f7 := hiI); go_simp; first | done | with_reducible rfl)); simp only [Act.put, List.setIfInBounds_toArray, List.set_cons_zero, List.set_cons_succ])
      (refine mv_val 2 (v := ?_) rfl (by kernel_rfl) (by kernel_rfl) (by kernel_rfl) (fun _ _ _ h => h) (by rfl) hS ?_ ?_; rotate_left; (focus (intro w hSw; (try dsimp only at hSw); (have f1 := (F1 w hSw).1; have f2 := (F1 w hSw).2.1; have f3 := (F1 w hSw).2.2; have f4 := hir; have f5 := hirI; have f6 := hlt; have f7 := hiI); go_simp; first | done | with_reducible rfl)); simp only [Act.put, List.setIfInBounds_toArray, List.set_cons_zero, List.set_cons_succ])
      (refine mv_val 3 (v := ?_) rfl (by kernel_rfl) (by kernel_rfl) (by kernel_rfl) (fun _ _ _ h => h) (by rfl) hS ?_ ?_; rotate_left; (focus (intro w hSw; (try dsimp only at hSw); (have f1 := (F1 w hSw).1; have f2 := (F1 w hSw).2.1; have f3 := (F1 w hSw).2.2; have f4 := hir; have f5 := hirI; have f6 := hlt; have f7 := hiI); go_simp; first | done | with_reducible rfl)); simp only [Act.put, List.setIfInBounds_toArray, List.set_cons_zero, List.set_cons_succ])
      (refine mv_val 4 (v := ?_) rfl (by kernel_rfl) (by kernel_rfl) (by kernel_rfl) (fun _ _ _ h => h) (by rfl) hS ?_ ?_; rotate_left; (focus (intro w hSw; (try dsimp only at hSw); (have f1 := (F1 w hSw).1; have f2 := (F1 w hSw).2.1; have f3 := (F1 w hSw).2.2; have f4 := hir; have f5 := hirI; have f6 := hlt; have f7 := hiI); go_simp; first | done | with_reducible rfl)); simp only [Act.put, List.setIfInBounds_toArray, List.set_cons_zero, List.set_cons_succ])
      (refine mv_val 6 (v := ?_) rfl (by kernel_rfl) (by kernel_rfl) (by kernel_rfl) (fun _ _ _ h => h) (by rfl) hS ?_ ?_; rotate_left; (focus (intro w hSw; (try dsimp only at hSw); (have f1 := (F1 w hSw).1; have f2 := (F1 w hSw).2.1; have f3 := (F1 w hSw).2.2; have f4 := hir; have f5 := hirI; have f6 := hlt; have f7 := hiI); go_simp; first | done | with_reducible rfl)); simp only [Act.put, List.setIfInBounds_toArray, List.set_cons_zero, List.set_cons_succ])
      (refine mv_val 7 (v := ?_) rfl (by kernel_rfl) (by kernel_rfl) (by kernel_rfl) (fun _ _ _ h => h) (by rfl) hS ?_ ?_; rotate_left; (focus (intro w hSw; (try dsimp only at hSw); (have f1 := (F1 w hSw).1; have f2 := (F1 w hSw).2.1; have f3 := (F1 w hSw).2.2; have f4 := hir; have f5 := hirI; have f6 := hlt; have f7 := hiI); go_simp; first | done | with_reducible rfl)); simp only [Act.put, List.setIfInBounds_toArray, List.set_cons_zero, List.set_cons_succ])
      (refine mv_val 8 (v := ?_) rfl (by kernel_rfl) (by kernel_rfl) (by kernel_rfl) (fun _ _ _ h => h) (by rfl) hS ?_ ?_; rotate_left; (focus (intro w hSw; (try dsimp only at hSw); (have f1 := (F1 w hSw).1; have f2 := (F1 w hSw).2.1; have f3 := (F1 w hSw).2.2; have f4 := hir; have f5 := hirI; have f6 := hlt; have f7 := hiI); go_simp; first | done | with_reducible rfl)); simp only [Act.put, List.setIfInBounds_toArray, List.set_cons_zero, List.set_cons_succ])
      (refine mv_val 9 (v := ?_) rfl (by kernel_rfl) (by kernel_rfl) (by kernel_rfl) (fun _ _ _ h => h) (by rfl) hS ?_ ?_; rotate_left; (focus (intro w hSw; (try dsimp only at hSw); (have f1 := (F1 w hSw).1; have f2 := (F1 w hSw).2.1; have f3 := (F1 w hSw).2.2; have f4 := hir; have f5 := hirI; have f6 := hlt; have f7 := hiI); go_simp; first | done | with_reducible rfl)); simp only [Act.put, List.setIfInBounds_toArray, List.set_cons_zero, List.set_cons_succ])
      refine mv_two 5 10 rfl rfl (by kernel_rfl) (by rfl) (by rfl) (fun K hK => ?_) (fun K hK => ?_)
      · skip
        go_simp
        refine hK _ _ ?_ ?_ <;> clear hK K
        · exact hS
        try simp only [Act.put, List.setIfInBounds_toArray, List.set_cons_zero, List.set_cons_succ]
        refine mv_step 10 rfl (by kernel_rfl) (by rfl) (fun K hK => ?_)
        go_simp
        refine hK _ _ ?_ ?_ <;> clear hK K
        · exact (belE.alloc belE.size _)
        try simp only [Act.put, List.setIfInBounds_toArray, List.set_cons_zero, List.set_cons_succ]
        refine mv_step 11 rfl (by kernel_rfl) (by rfl) (fun K hK => ?_)
        refine wp_app HEL _ _ rfl (by exact so.alloc _) rfl rfl (by exact cv_three v rfl) rfl (cv_one _) (by unfold maxLen; omega) (by have : (C.length + 1) * by_ ≤ 1000001 * 64 := Nat.mul_le_mul (by omega) hby; omega) (by show g ≤ (we.alloc _).heap.size; simp; omega) ?_; intro v7 w7 hown7 hg7 hor7; refine hK _ _ ?_ ?_ <;> clear hK K
        · exact (belE.alloc belE.size _).trans ((own_below (by exact so.alloc _) hg7 (by show g ≤ (we.alloc _).heap.size; simp; omega)).mono hgw)
        have b7 : Below w.heap.size w w7 := (belE.alloc belE.size _).trans ((own_below (by exact so.alloc _) hg7 (by show g ≤ (we.alloc _).heap.size; simp; omega)).mono hgw)
        rw [← vcells_snoc, ← List.length_singleton (a := v), ← List.length_append] at hown7
        obtain ⟨A7, c7, rfl, _⟩ := own_form hown7
        have hg8 : (we.alloc (.cells #[.int .u8 (v.k : Int), .int .i64 v.n, txt v.t] 46)).grownBy w7 (Value.slice s1 C.length s3).ownBlock := hg7
        have hor8 : (Value.slice A7 (C ++ [v]).length c7).ownBlock = (Value.slice s1 C.length s3).ownBlock ∨ (Value.slice A7 (C ++ [v]).length c7).ownBlock = some (we.alloc (.cells #[.int .u8 (v.k : Int), .int .i64 v.n, txt v.t] 46)).heap.size := hor7
        have hU := OwnN.upd (s := (s1, C.length, s3)) (s' := (A7, (C ++ [v]).length, c7)) (b' := C ++ [v]) (by decide) ownE HAT.out sc rfl hown7 ((Below.refl _ we).alloc (Nat.le_refl _) _) hg8 hor8
        rw [show (stCols m rows i k).set i (C ++ [v]) = stCols m rows i (k + 1) by rw [← HCT.out, HST.out]] at hU
        obtain ⟨⟨x7, y7⟩, hU⟩ := hU
        simp only [sl3] at x7 hU
        have HU := Lib.hid hU
        have HLN := Lib.hid (show (C ++ [v]).length = C.length + 1 by simp)
        rw [HLN.out] at hown7 HU ⊢
        clear hU hg7 hor7 hg8 hor8 hown7
        replace hS := b7
        try simp only [Act.put, List.setIfInBounds_toArray, List.set_cons_zero, List.set_cons_succ]
        (refine mv_val 12 (v := ?_) rfl (by kernel_rfl) (by kernel_rfl) (by kernel_rfl) (fun _ _ _ h => h) (by rfl) hS ?_ ?_; rotate_left; (focus (intro w hSw; (try dsimp only at hSw); (have f1 := (F1 w hSw).1; have f2 := (F1 w hSw).2.1; have f3 := (F1 w hSw).2.2; have f4 := hir; have f5 := hirI; have f6 := hlt; have f7 := hiI); go_simp; first | done | with_reducible rfl)); simp only [Act.put, List.setIfInBounds_toArray, List.set_cons_zero, List.set_cons_succ])
        refine mv_step 13 rfl (by kernel_rfl) (by rfl) (fun K hK => ?_)
        go_simp
        refine hK _ _ ?_ ?_ <;> clear hK K
        · exact b7.setCell (p := ⟨g, i, none⟩) hgw _
        try simp only [Act.put, List.setIfInBounds_toArray, List.set_cons_zero, List.set_cons_succ]
        refine wpAnyH_done (by kernel_rfl) ?_ _
        go_wp2_with fail
        go_roundw
        case rel => exact ⟨k + 1, by omega, by go_num, HU.out, b7.setCell (p := ⟨g, i, none⟩) hgw _⟩
        case measure => simp [intOf]; omega
      · skip
        go_simp
        refine hK _ _ ?_ ?_ <;> clear hK K
        · exact (belE.alloc belE.size _)
        try simp only [Act.put, List.setIfInBounds_toArray, List.set_cons_zero, List.set_cons_succ]
        refine mv_step 5 rfl (by kernel_rfl) (by rfl) (fun K hK => ?_)
        go_simp
        refine hK _ _ ?_ ?_ <;> clear hK K
        · exact (belE.alloc belE.size _)
        try simp only [Act.put, List.setIfInBounds_toArray, List.set_cons_zero, List.set_cons_succ]
        refine mv_step 11 rfl (by kernel_rfl) (by rfl) (fun K hK => ?_)
        refine wp_app HEL _ _ rfl (by exact so.alloc _) rfl rfl (by exact cv_three v rfl) rfl (cv_one _) (by unfold maxLen; omega) (by have : (C.length + 1) * by_ ≤ 1000001 * 64 := Nat.mul_le_mul (by omega) hby; omega) (by show g ≤ (we.alloc _).heap.size; simp; omega) ?_; intro v7 w7 hown7 hg7 hor7; refine hK _ _ ?_ ?_ <;> clear hK K
        · exact (belE.alloc belE.size _).trans ((own_below (by exact so.alloc _) hg7 (by show g ≤ (we.alloc _).heap.size; simp; omega)).mono hgw)
        have b7 : Below w.heap.size w w7 := (belE.alloc belE.size _).trans ((own_below (by exact so.alloc _) hg7 (by show g ≤ (we.alloc _).heap.size; simp; omega)).mono hgw)
        rw [← vcells_snoc, ← List.length_singleton (a := v), ← List.length_append] at hown7
        obtain ⟨A7, c7, rfl, _⟩ := own_form hown7
        have hg8 : (we.alloc (.cells #[.int .u8 (v.k : Int), .int .i64 v.n, txt v.t] 46)).grownBy w7 (Value.slice s1 C.length s3).ownBlock := hg7
        have hor8 : (Value.slice A7 (C ++ [v]).length c7).ownBlock = (Value.slice s1 C.length s3).ownBlock ∨ (Value.slice A7 (C ++ [v]).length c7).ownBlock = some (we.alloc (.cells #[.int .u8 (v.k : Int), .int .i64 v.n, txt v.t] 46)).heap.size := hor7
        have hU := OwnN.upd (s := (s1, C.length, s3)) (s' := (A7, (C ++ [v]).length, c7)) (b' := C ++ [v]) (by decide) ownE HAT.out sc rfl hown7 ((Below.refl _ we).alloc (Nat.le_refl _) _) hg8 hor8
        rw [show (stCols m rows i k).set i (C ++ [v]) = stCols m rows i (k + 1) by rw [← HCT.out, HST.out]] at hU
        obtain ⟨⟨x7, y7⟩, hU⟩ := hU
        simp only [sl3] at x7 hU
        have HU := Lib.hid hU
        have HLN := Lib.hid (show (C ++ [v]).length = C.length + 1 by simp)
        rw [HLN.out] at hown7 HU ⊢
        clear hU hg7 hor7 hg8 hor8 hown7
        replace hS := b7
        try simp only [Act.put, List.setIfInBounds_toArray, List.set_cons_zero, List.set_cons_succ]
        (refine mv_val 12 (v := ?_) rfl (by kernel_rfl) (by kernel_rfl) (by kernel_rfl) (fun _ _ _ h => h) (by rfl) hS ?_ ?_; rotate_left; (focus (intro w hSw; (try dsimp only at hSw); (have f1 := (F1 w hSw).1; have f2 := (F1 w hSw).2.1; have f3 := (F1 w hSw).2.2; have f4 := hir; have f5 := hirI; have f6 := hlt; have f7 := hiI); go_simp; first | done | with_reducible rfl)); simp only [Act.put, List.setIfInBounds_toArray, List.set_cons_zero, List.set_cons_succ])
        refine mv_step 13 rfl (by kernel_rfl) (by rfl) (fun K hK => ?_)
        go_simp
        refine hK _ _ ?_ ?_ <;> clear hK K
        · exact b7.setCell (p := ⟨g, i, none⟩) hgw _
        try simp only [Act.put, List.setIfInBounds_toArray, List.set_cons_zero, List.set_cons_succ]
        refine wpAnyH_done (by kernel_rfl) ?_ _
        go_wp2_with fail
        go_roundw
        case rel => exact ⟨k + 1, by omega, by go_num, HU.out, b7.setCell (p := ⟨g, i, none⟩) hgw _⟩
        case measure => simp [intOf]; omega
end Go.Proofs.Ythkpgjcnnfdibaa

/-! The walk of segment.bounds (layer 7): the bytes of the least, and of the greatest values. No condition but sizes. Printed by gen_sg4.py. -/
namespace Go.Proofs.Ythkpgjcnnfdibaa
open Go.RowKit Go.Maps
set_option linter.unusedVariables false
set_option linter.unusedSimpArgs false

/-- all blocks lie as they lay, but the two named -/
def Kp2 (b6 b7 : Option Nat) (W W' : World) : Prop := W.heap.size ≤ W'.heap.size ∧ ∀ k, k < W.heap.size → b6 ≠ some k → b7 ≠ some k → W'.heap[k]? = W.heap[k]?
theorem Kp2.refl (b6 b7 : Option Nat) (W : World) : Kp2 b6 b7 W W := ⟨Nat.le_refl _, fun _ _ _ _ => rfl⟩
theorem Kp2.alloc {b6 b7 : Option Nat} {W W' : World} (h : Kp2 b6 b7 W W') (o : Obj) : Kp2 b6 b7 W (W'.alloc o) := ⟨by have := h.1; simp; omega, fun k h1 h2 h3 => (Below.heap_alloc _ _ _ (by have := h.1; omega)).trans (h.2 k h1 h2 h3)⟩
theorem Kp2.grown {b6 b7 r : Option Nat} {W W' W'' : World} (h : Kp2 b6 b7 W W') (hg : W'.grownBy W'' r) (hr : ∀ k, k < W.heap.size → r = some k → b6 = some k ∨ b7 = some k) : Kp2 b6 b7 W W'' :=
  ⟨Nat.le_trans h.1 hg.size, fun k h1 h2 h3 => (hg.block k (by have := h.1; omega) (fun e => by rcases hr k h1 e.symm with h4 | h4; exact h2 h4; exact h3 h4)).trans (h.2 k h1 h2 h3)⟩
theorem rd_grown {w w' : World} {B k : Nat} {r : Option Nat} {xs : List Value} (h : Rd w B (some ⟨k, 0, none⟩) xs) (hg : w.grownBy w' r) (hk : k < w.heap.size) (hr : r ≠ some k) : Rd w' B (some ⟨k, 0, none⟩) xs := by
  rcases h with h | ⟨b, o, hA, hb, hc⟩
  · exact .inl h
  · simp only [Option.some.injEq, Addr.mk.injEq, and_true] at hA
    obtain ⟨rfl, rfl⟩ := hA
    exact .inr ⟨k, 0, rfl, hb, fun j u hu => (World.cell?_of_block (w := w) (hg.block k hk (fun e => hr e.symm))).trans (hc j u hu)⟩
/-- What a call that answers two rows of bytes leaves. -/
def RetB2 (w : World) (x y : List UInt8) (e : Ending) (w' : World) : Prop :=
  ∃ A c A' c', e = .returned (.tuple #[.slice A x.length c, .slice A' y.length c']) ∧ Rd w' w'.heap.size A (cells x) ∧ Rd w' w'.heap.size A' (cells y) ∧ (x.length ≤ c ∧ y.length ≤ c') ∧ Below w.heap.size w w'
theorem bstep_or (p : V × V) (v : V) : ((bstep p v).1 = v ∨ (bstep p v).1 = p.1) ∧ ((bstep p v).2 = v ∨ (bstep p v).2 = p.2) := by
  unfold bstep
  split
  · exact ⟨.inr rfl, .inr rfl⟩
  · refine ⟨?_, ?_⟩
    · dsimp only; split
      · exact .inl rfl
      · exact .inr rfl
    · dsimp only; split
      · exact .inl rfl
      · exact .inr rfl
theorem bnds_mem (l : List V) : ∀ p : V × V, ((l.foldl bstep p).1 = p.1 ∨ (l.foldl bstep p).1 ∈ l) ∧ ((l.foldl bstep p).2 = p.2 ∨ (l.foldl bstep p).2 ∈ l) := by
  induction l with
  | nil => intro p; exact ⟨.inl rfl, .inl rfl⟩
  | cons v l ih =>
    intro p
    rw [List.foldl_cons]
    obtain ⟨h1, h2⟩ := ih (bstep p v)
    obtain ⟨h3, h4⟩ := bstep_or p v
    refine ⟨?_, ?_⟩
    · rcases h1 with h1 | h1
      · rcases h3 with h3 | h3
        · right; rw [h1, h3]; exact List.mem_cons_self ..
        · left; rw [h1, h3]
      · right; exact List.mem_cons_of_mem _ h1
    · rcases h2 with h2 | h2
      · rcases h4 with h4 | h4
        · right; rw [h2, h4]; exact List.mem_cons_self ..
        · left; rw [h2, h4]
      · right; exact List.mem_cons_of_mem _ h2
theorem bnds_in (l : List V) : ((bnds l).1 = null ∨ (bnds l).1 ∈ l) ∧ ((bnds l).2 = null ∨ (bnds l).2 ∈ l) := bnds_mem l (null, null)
theorem vsm_null : vsm null := by unfold vsm i64r null; simp
theorem bnds_vsm {l : List V} (h : ∀ v ∈ l, vsm v) : vsm (bnds l).1 ∧ vsm (bnds l).2 := by
  obtain ⟨h1, h2⟩ := bnds_in l
  refine ⟨?_, ?_⟩
  · rcases h1 with h1 | h1
    · rw [h1]; exact vsm_null
    · exact h _ h1
  · rcases h2 with h2 | h2
    · rw [h2]; exact vsm_null
    · exact h _ h2
theorem least_take {cs : List (List V)} {k : Nat} {l : List V} (h : cs[k]? = some l) : least (cs.take (k + 1)) = least (cs.take k) ++ [(bnds l).1] ∧ greatest (cs.take (k + 1)) = greatest (cs.take k) ++ [(bnds l).2] := by
  unfold least greatest
  rw [List.take_add_one, h, List.map_append, List.map_append]
  exact ⟨rfl, rfl⟩
theorem least_vsm {cs : List (List V)} (h : ∀ l ∈ cs, ∀ v ∈ l, vsm v) : (∀ v ∈ least cs, vsm v) ∧ ∀ v ∈ greatest cs, vsm v := by
  refine ⟨fun v hv => ?_, fun v hv => ?_⟩
  · obtain ⟨l, hl, rfl⟩ := List.mem_map.1 hv
    exact (bnds_vsm (h l hl)).1
  · obtain ⟨l, hl, rfl⟩ := List.mem_map.1 hv
    exact (bnds_vsm (h l hl)).2

set_option maxHeartbeats 8000000 in
set_option maxRecDepth 100000 in
theorem sbounds_any (B : Nat) (A A' : Option Addr) (c c' : Nat) (T : List UInt8) (cs : List (List V)) (w : World) (hT : Rd w B A (cells T)) (hr : RdVV w B A' cs) (hB : B ≤ w.heap.size) (hTl : T.length ≤ 1000000) (hl : cs.length ≤ 1000000)
    (hok : ∀ l ∈ cs, l.length ≤ 4294967296 ∧ ∀ v ∈ l, vsm v) (h1 : (rbytes (least cs)).length ≤ 4294967296) (h2 : (rbytes (greatest cs)).length ≤ 4294967296) :
    Calls Try.prog 28 #[.slice A T.length c, .slice A' cs.length c'] w (RetB2 w (rput T (least cs)).1 (rput T (greatest cs)).1) := by
  obtain ⟨by_, HEL, hby⟩ := El_val
  obtain ⟨hv1, hv2⟩ := least_vsm (fun l hl => (hok l hl).2)
  have HOK := Lib.hid hok
  have HP := Lib.hid (fun (w' : World) (l : List V) (A3 : Option Addr) (c3 : Nat) (h : Below w.heap.size w w') (hl : Rd w' w'.heap.size A3 (vcells l)) (hv : ∀ v ∈ l, vsm v) (hll : l.length ≤ 1000000) (hbl : (rbytes l).length ≤ 4294967296) =>
    Rw.Put_row w'.heap.size A A3 c c3 T l w' ((hT.below (h.mono hB)).more (by have := h.size; omega)) hl (Nat.le_refl _) (by omega) (by omega) hv hbl)
  have HV1 := Lib.hid hv1
  have HV2 := Lib.hid hv2
  have HR1 := Lib.hid h1
  have HR2 := Lib.hid h2
  clear hok hT hv1 hv2 h1 h2
  go_enter Try.func28, Try.ntmps28
  go_wp2_with fail
  go_loopw [6, 7, 18] (fun v6 v7 v18 wr => ∃ k : Nat, k ≤ cs.length ∧ v18 = .int .i64 k ∧ wr.ownsRow w.heap.size 46 3 v6 k (vcells (least (cs.take k))) ∧ wr.ownsRow w.heap.size 46 3 v7 k (vcells (greatest (cs.take k))) ∧ Ap v6 v7 ∧ Below w.heap.size w wr) (fun _ _ v18 _ => cs.length - (intOf v18).toNat)
  case atStart => exact ⟨0, by omega, rfl, World.ownsRow_nil _ _ _ _, World.ownsRow_nil _ _ _ _, .inl rfl, Below.refl _ _⟩
  case round =>
    obtain ⟨k, hk, rfl, own6, own7, hap, hbel⟩ := hrel
    obtain ⟨A6, c6, rfl, hc6⟩ := own_form own6
    obtain ⟨A7, c7, rfl, hc7⟩ := own_form own7
    have hbz := hbel.size
    by_cases hlt : k < cs.length
    case neg =>
      have hkk : k = cs.length := by omega
      have hge : (cs.length : Int) ≤ (k : Int) := by omega
      rw [hkk, List.take_length] at own6 own7
      have ll := least_length cs
      have lg := greatest_length cs
      obtain ⟨lo, hlo⟩ : ∃ l, l = least cs := ⟨_, rfl⟩
      obtain ⟨hi, hhi⟩ : ∃ l, l = greatest cs := ⟨_, rfl⟩
      rw [← hlo] at own6 HV1 HR1 ll
      rw [← hhi] at own7 HV2 HR2 lg
      rw [← hlo, ← hhi]
      have P1 := HP.out wr lo A6 c6 hbel (by rw [← ll] at own6; exact rd_own own6) HV1.out (by omega) HR1.out
      have P2 := fun (w' : World) (h : Below w.heap.size w w') (h7 : Rd w' w'.heap.size A7 (vcells hi)) => HP.out w' hi A7 c7 h h7 HV2.out (by omega) HR2.out
      rw [ll, ← hkk] at P1
      rw [lg, ← hkk] at P2
      have r7 : Rd wr wr.heap.size A7 (vcells hi) := by rw [← lg] at own7; exact rd_own own7
      obtain ⟨x, hx⟩ : ∃ x, x = rput T lo := ⟨_, rfl⟩
      obtain ⟨y, hy⟩ : ∃ y, y = rput T hi := ⟨_, rfl⟩
      rw [← hx] at P1
      rw [← hy] at P2
      rw [← hx, ← hy]
      have HXX := Lib.hid (show rput T (least cs) = x by rw [hx, hlo])
      have HYY := Lib.hid (show rput T (greatest cs) = y by rw [hy, hhi])
      have HP1 := Lib.hid P1
      have HP2 := Lib.hid P2
      clear P1 P2 hx hy hlo hhi own6 own7 ll lg HOK HP HV1 HV2 HR1 HR2 hr hkk
      go_wp2_with fail
      refine HP1.out.mono ?_; rintro e w4 ⟨A4, c4, rfl, hown4, hb4⟩
      have hb04 : Below w.heap.size w w4 := hbel.trans (hb4.mono hbz)
      have r4 := rd_own hown4
      have l4 := own_le hown4
      have r74 : Rd w4 w4.heap.size A7 (vcells hi) := (r7.below hb4).more hb4.size
      go_wp2_with fail
      refine (HP2.out w4 hb04 r74).mono ?_; rintro e w5 ⟨A5, c5, rfl, hown5, hb5⟩
      have r45 : Rd w5 w5.heap.size A4 (cells x.1) := (r4.below hb5).more hb5.size
      go_wp2_with fail
      go_ret2
      rw [HXX.out, HYY.out]
      exact ⟨A4, c4, A5, c5, rfl, r45, rd_own hown5, ⟨l4, own_le hown5⟩, hb04.trans (hb5.mono hb04.size)⟩
    obtain ⟨l, hl0⟩ : ∃ l, cs[k]? = some l := ⟨_, List.getElem?_eq_getElem hlt⟩
    obtain ⟨hll, hlv⟩ := HOK.out l (List.mem_of_getElem? hl0)
    obtain ⟨ga, oa, a1, ca, rfl, hga, q0, hca, hra⟩ := rdN_at hr hl0
    have q1 := (hbel.cell (p := ⟨ga, oa + k, none⟩) (by show ga < _; omega)).trans q0
    have KB0 := bounds_any B a1 ca l wr (hra.below (hbel.mono hB)) (by omega) hll hlv
    obtain ⟨e1, e2⟩ := least_take hl0
    obtain ⟨LO, hLO⟩ : ∃ L, L = least (cs.take k) := ⟨_, rfl⟩
    obtain ⟨HI, hHI⟩ : ∃ L, L = greatest (cs.take k) := ⟨_, rfl⟩
    rw [← hLO] at own6 e1
    rw [← hHI] at own7 e2
    obtain ⟨x, hx⟩ : ∃ x, x = (bnds l).1 := ⟨_, rfl⟩
    obtain ⟨y, hy⟩ : ∃ y, y = (bnds l).2 := ⟨_, rfl⟩
    rw [← hx, ← hy] at KB0
    rw [← hx] at e1
    rw [← hy] at e2
    have KB := Lib.hid KB0
    have E1 := Lib.hid e1
    have E2 := Lib.hid e2
    have hkI : (k : Int) < (cs.length : Int) := by omega
    clear KB0 e1 e2 hx hy hLO hHI hl0 hlv hll q0 hra
    go_wp2_with fail
    refine KB.out.mono ?_; rintro e w5 ⟨rfl, hb5⟩
    have own65 := own_bel own6 hb5
    have own75 := own_bel own7 hb5
    have hb05 : Below w.heap.size w w5 := hbel.trans (hb5.mono hbz)
    clear own6 own7 hbel hb5 q1 hbz
    go_wp2_with fail
    obtain ⟨we, hwe⟩ : ∃ we, we = ((w5.alloc (.cells #[.int .u8 (x.k : Int), .int .i64 x.n, txt x.t] 46)).alloc (.cells #[.int .u8 (y.k : Int), .int .i64 y.n, txt y.t] 46)) := ⟨_, rfl⟩
    obtain ⟨x0, x1, x2⟩ := cv_block w5 (.int .u8 (x.k : Int)) (.int .i64 x.n) (txt x.t) 46
    obtain ⟨y0, y1, y2⟩ := cv_block (w5.alloc (.cells #[.int .u8 (x.k : Int), .int .i64 x.n, txt x.t] 46)) (.int .u8 (y.k : Int)) (.int .i64 y.n) (txt y.t) 46
    rw [World.size_alloc] at y0 y1 y2
    have x0' := cell_al x0 (cell_lt x0) (.cells #[.int .u8 (y.k : Int), .int .i64 y.n, txt y.t] 46)
    have x1' := cell_al x1 (cell_lt x1) (.cells #[.int .u8 (y.k : Int), .int .i64 y.n, txt y.t] 46)
    have x2' := cell_al x2 (cell_lt x2) (.cells #[.int .u8 (y.k : Int), .int .i64 y.n, txt y.t] 46)
    have b5 := hb05.size
    have own6 : we.ownsRow w.heap.size 46 3 (.slice A6 k c6) k (vcells LO) := by rw [hwe]; exact (own65.alloc _).alloc _
    have own7 : we.ownsRow w.heap.size 46 3 (.slice A7 k c7) k (vcells HI) := by rw [hwe]; exact (own75.alloc _).alloc _
    have hbe : Below w.heap.size w we := by rw [hwe]; exact (hb05.alloc b5 _).alloc (by simp; omega) _
    have n6 : ∀ g, (Value.slice A6 k c6).ownBlock = some g → g < w5.heap.size := fun g h => (own65.lt g h).2
    have n7 : ∀ g, (Value.slice A7 k c7).ownBlock = some g → g < w5.heap.size := fun g h => (own75.lt g h).2
    have hze : we.heap.size = w5.heap.size + 2 := by rw [hwe]; simp
    obtain ⟨P, hP⟩ : ∃ P, P = w5.heap.size := ⟨_, rfl⟩
    rw [← hwe] at x0' x1' x2' y0 y1 y2 ⊢
    rw [← hP] at x0' x1' x2' y0 y1 y2 n6 n7 hze ⊢
    have G : ∀ w', Kp2 (Value.slice A6 k c6).ownBlock (Value.slice A7 k c7).ownBlock we w' → ∀ (q o : Nat) (v : Value), P ≤ q → we.cell? ⟨q, o, none⟩ = some v → w'.cell? ⟨q, o, none⟩ = some v := fun w' h q o v hq hc =>
      (World.cell?_of_block (w := we) (h.2 q (cell_lt hc) (fun e => by have := n6 q e; omega) (fun e => by have := n7 q e; omega))).trans hc
    have F1 : ∀ w', Kp2 (Value.slice A6 k c6).ownBlock (Value.slice A7 k c7).ownBlock we w' → (w'.cell? ⟨P, 0, none⟩ = some (.int .u8 (x.k : Int)) ∧ w'.cell? ⟨P, 1, none⟩ = some (.int .i64 x.n) ∧ w'.cell? ⟨P, 2, none⟩ = some (txt x.t)) ∧ (w'.cell? ⟨P + 1, 0, none⟩ = some (.int .u8 (y.k : Int)) ∧ w'.cell? ⟨P + 1, 1, none⟩ = some (.int .i64 y.n) ∧ w'.cell? ⟨P + 1, 2, none⟩ = some (txt y.t)) := fun w' h =>
      ⟨⟨G w' h _ _ _ (Nat.le_refl _) x0', G w' h _ _ _ (Nat.le_refl _) x1', G w' h _ _ _ (Nat.le_refl _) x2'⟩, ⟨G w' h _ _ _ (by omega) y0, G w' h _ _ _ (by omega) y1, G w' h _ _ _ (by omega) y2⟩⟩
    obtain ⟨wd, hwd⟩ : ∃ wd, wd = we.drew := ⟨_, rfl⟩
    have o6 : wd.ownsRow w.heap.size 46 3 (.slice A6 k c6) k (vcells LO) := by rw [hwd]; exact own6
    have o7 : wd.ownsRow w.heap.size 46 3 (.slice A7 k c7) k (vcells HI) := by rw [hwd]; exact own7
    have s0 : Below w.heap.size w wd ∧ Kp2 (Value.slice A6 k c6).ownBlock (Value.slice A7 k c7).ownBlock we wd := by rw [hwd]; exact ⟨hbe.drew, Nat.le_refl _, fun _ _ _ _ => rfl⟩
    have hzP : P + 2 ≤ we.heap.size := by omega
    clear hze
    have hbP : w.heap.size ≤ P := by omega
    clear x0 x1 x2 x0' x1' x2' y0 y1 y2 own65 own75 own6 own7 G hP
    refine ah_start 10 (fun w' => Below w.heap.size w w' ∧ Kp2 (Value.slice A6 k c6).ownBlock (Value.slice A7 k c7).ownBlock we w') rfl (by kernel_rfl) ⟨hbe.drew, Nat.le_refl _, fun _ _ _ _ => rfl⟩ ?_ ; intro hS
    rw [← hwd]
    rw [← hwd] at hS
    clear hwd hwe
    (refine mv_val 0 (v := ?_) rfl (by kernel_rfl) (by kernel_rfl) (by kernel_rfl) (fun _ _ _ h => h) (by rfl) hS ?_ ?_; rotate_left; (focus (intro w hSw; (try dsimp only at hSw); (have f1 := (F1 w hSw.2).1.1; have f2 := (F1 w hSw.2).1.2.1; have f3 := (F1 w hSw.2).1.2.2; have f4 := (F1 w hSw.2).2.1; have f5 := (F1 w hSw.2).2.2.1; have f6 := (F1 w hSw.2).2.2.2); go_simp; first | done | with_reducible rfl)); simp only [Act.put, List.setIfInBounds_toArray, List.set_cons_zero, List.set_cons_succ])
    (refine mv_val 1 (v := ?_) rfl (by kernel_rfl) (by kernel_rfl) (by kernel_rfl) (fun _ _ _ h => h) (by rfl) hS ?_ ?_; rotate_left; (focus (intro w hSw; (try dsimp only at hSw); (have f1 := (F1 w hSw.2).1.1; have f2 := (F1 w hSw.2).1.2.1; have f3 := (F1 w hSw.2).1.2.2; have f4 := (F1 w hSw.2).2.1; have f5 := (F1 w hSw.2).2.2.1; have f6 := (F1 w hSw.2).2.2.2); go_simp; first | done | with_reducible rfl)); simp only [Act.put, List.setIfInBounds_toArray, List.set_cons_zero, List.set_cons_succ])
    (refine mv_val 4 (v := ?_) rfl (by kernel_rfl) (by kernel_rfl) (by kernel_rfl) (fun _ _ _ h => h) (by rfl) hS ?_ ?_; rotate_left; (focus (intro w hSw; (try dsimp only at hSw); (have f1 := (F1 w hSw.2).1.1; have f2 := (F1 w hSw.2).1.2.1; have f3 := (F1 w hSw.2).1.2.2; have f4 := (F1 w hSw.2).2.1; have f5 := (F1 w hSw.2).2.2.1; have f6 := (F1 w hSw.2).2.2.2); go_simp; first | done | with_reducible rfl)); simp only [Act.put, List.setIfInBounds_toArray, List.set_cons_zero, List.set_cons_succ])
    (refine mv_val 5 (v := ?_) rfl (by kernel_rfl) (by kernel_rfl) (by kernel_rfl) (fun _ _ _ h => h) (by rfl) hS ?_ ?_; rotate_left; (focus (intro w hSw; (try dsimp only at hSw); (have f1 := (F1 w hSw.2).1.1; have f2 := (F1 w hSw.2).1.2.1; have f3 := (F1 w hSw.2).1.2.2; have f4 := (F1 w hSw.2).2.1; have f5 := (F1 w hSw.2).2.2.1; have f6 := (F1 w hSw.2).2.2.2); go_simp; first | done | with_reducible rfl)); simp only [Act.put, List.setIfInBounds_toArray, List.set_cons_zero, List.set_cons_succ])
    refine mv_two 2 6 rfl rfl (by kernel_rfl) (by rfl) (by rfl) (fun K hK => ?_) (fun K hK => ?_)
    · skip
      go_simp
      refine hK _ _ ?_ ?_ <;> clear hK K
      · exact ⟨s0.1.alloc s0.1.size _, s0.2.alloc _⟩
      obtain ⟨z1, hz1⟩ : ∃ w', w' = wd.alloc (.cells #[.int .u8 (x.k : Int), .int .i64 x.n, txt x.t] 46) := ⟨_, rfl⟩
      have sz1 : Below w.heap.size w z1 ∧ Kp2 (Value.slice A6 k c6).ownBlock (Value.slice A7 k c7).ownBlock we z1 := by rw [hz1]; exact ⟨s0.1.alloc s0.1.size _, s0.2.alloc _⟩
      have rxz1 : Rd z1 (wd.heap.size + 1) (some ⟨wd.heap.size, 0, none⟩) (cv x) := by rw [hz1]; exact cv_three x rfl
      have nxz1 : P ≤ wd.heap.size ∧ wd.heap.size < z1.heap.size := by rw [hz1]; have := s0.2.1; constructor; omega; simp
      have o6z1 := own_bel o6 (w' := z1) (by rw [hz1]; exact (Below.refl _ _).alloc (Nat.le_refl _) _)
      have o7z1 := own_bel o7 (w' := z1) (by rw [hz1]; exact (Below.refl _ _).alloc (Nat.le_refl _) _)
      rw [← hz1]
      replace hS := sz1
      clear hz1
      try simp only [Act.put, List.setIfInBounds_toArray, List.set_cons_zero, List.set_cons_succ]
      refine mv_two 3 6 rfl rfl (by kernel_rfl) (by rfl) (by rfl) (fun K hK => ?_) (fun K hK => ?_)
      · skip
        refine wp_app HEL _ _ rfl o6z1 rfl rfl (by exact rxz1) rfl (cv_one _) (by unfold maxLen; omega) (by have : (k + 1) * by_ ≤ 1000001 * 64 := Nat.mul_le_mul (by omega) hby; omega) sz1.1.size ?_; intro uz2 z2 hownz2 hgz2 horz2; refine hK _ _ ?_ ?_ <;> clear hK K
        · exact ⟨sz1.1.trans (own_below o6z1 hgz2 sz1.1.size), sz1.2.grown hgz2 (fun q hq e => .inl (by exact e))⟩
        have sz2 : Below w.heap.size w z2 ∧ Kp2 (Value.slice A6 k c6).ownBlock (Value.slice A7 k c7).ownBlock we z2 := ⟨sz1.1.trans (own_below o6z1 hgz2 sz1.1.size), sz1.2.grown hgz2 (fun q hq e => .inl (by exact e))⟩
        have gz2 : z1.grownBy z2 (Value.slice A6 k c6).ownBlock := hgz2
        have orz2 : uz2.ownBlock = (Value.slice A6 k c6).ownBlock ∨ uz2.ownBlock = some z1.heap.size := horz2
        have o7z2 := own_grown o7z1 gz2 (Ap.ne hap.symm)
        have apz2 : Ap uz2 (Value.slice A7 k c7) := (hap.symm.app o7z1 orz2 (Nat.le_refl _)).symm
        rw [← vcells_snoc] at hownz2
        replace hS := sz2
        clear hgz2 horz2
        try simp only [Act.put, List.setIfInBounds_toArray, List.set_cons_zero, List.set_cons_succ]
        refine mv_step 6 rfl (by kernel_rfl) (by rfl) (fun K hK => ?_)
        go_simp
        refine hK _ _ ?_ ?_ <;> clear hK K
        · exact ⟨sz2.1.alloc sz2.1.size _, sz2.2.alloc _⟩
        obtain ⟨z3, hz3⟩ : ∃ w', w' = z2.alloc (.cells #[.int .u8 (y.k : Int), .int .i64 y.n, txt y.t] 46) := ⟨_, rfl⟩
        have sz3 : Below w.heap.size w z3 ∧ Kp2 (Value.slice A6 k c6).ownBlock (Value.slice A7 k c7).ownBlock we z3 := by rw [hz3]; exact ⟨sz2.1.alloc sz2.1.size _, sz2.2.alloc _⟩
        have ryz3 : Rd z3 (z2.heap.size + 1) (some ⟨z2.heap.size, 0, none⟩) (cv y) := by rw [hz3]; exact cv_three y rfl
        have nyz3 : P ≤ z2.heap.size ∧ z2.heap.size < z3.heap.size := by rw [hz3]; have := sz2.2.1; constructor; omega; simp
        have o6z3 := own_bel hownz2 (w' := z3) (by rw [hz3]; exact (Below.refl _ _).alloc (Nat.le_refl _) _)
        have o7z3 := own_bel o7z2 (w' := z3) (by rw [hz3]; exact (Below.refl _ _).alloc (Nat.le_refl _) _)
        rw [← hz3]
        replace hS := sz3
        clear hz3
        try simp only [Act.put, List.setIfInBounds_toArray, List.set_cons_zero, List.set_cons_succ]
        refine mv_step 7 rfl (by kernel_rfl) (by rfl) (fun K hK => ?_)
        refine wp_app HEL _ _ rfl o7z3 rfl rfl (by exact ryz3) rfl (cv_one _) (by unfold maxLen; omega) (by have : (k + 1) * by_ ≤ 1000001 * 64 := Nat.mul_le_mul (by omega) hby; omega) sz3.1.size ?_; intro uz4 z4 hownz4 hgz4 horz4; refine hK _ _ ?_ ?_ <;> clear hK K
        · exact ⟨sz3.1.trans (own_below o7z3 hgz4 sz3.1.size), sz3.2.grown hgz4 (fun q hq e => .inr (by exact e))⟩
        have sz4 : Below w.heap.size w z4 ∧ Kp2 (Value.slice A6 k c6).ownBlock (Value.slice A7 k c7).ownBlock we z4 := ⟨sz3.1.trans (own_below o7z3 hgz4 sz3.1.size), sz3.2.grown hgz4 (fun q hq e => .inr (by exact e))⟩
        have gz4 : z3.grownBy z4 (Value.slice A7 k c7).ownBlock := hgz4
        have orz4 : uz4.ownBlock = (Value.slice A7 k c7).ownBlock ∨ uz4.ownBlock = some z3.heap.size := horz4
        have o6z4 := own_grown o6z3 gz4 (Ap.ne apz2)
        have apz4 : Ap uz2 uz4 := apz2.app o6z3 orz4 (Nat.le_refl _)
        rw [← vcells_snoc] at hownz4
        replace hS := sz4
        clear hgz4 horz4
        try simp only [Act.put, List.setIfInBounds_toArray, List.set_cons_zero, List.set_cons_succ]
        (refine mv_val 8 (v := ?_) rfl (by kernel_rfl) (by kernel_rfl) (by kernel_rfl) (fun _ _ _ h => h) (by rfl) hS ?_ ?_; rotate_left; (focus (intro w hSw; (try dsimp only at hSw); (have f1 := (F1 w hSw.2).1.1; have f2 := (F1 w hSw.2).1.2.1; have f3 := (F1 w hSw.2).1.2.2; have f4 := (F1 w hSw.2).2.1; have f5 := (F1 w hSw.2).2.2.1; have f6 := (F1 w hSw.2).2.2.2); go_simp; first | done | with_reducible rfl)); simp only [Act.put, List.setIfInBounds_toArray, List.set_cons_zero, List.set_cons_succ])
        (refine mv_val 9 (v := ?_) rfl (by kernel_rfl) (by kernel_rfl) (by kernel_rfl) (fun _ _ _ h => h) (by rfl) hS ?_ ?_; rotate_left; (focus (intro w hSw; (try dsimp only at hSw); (have f1 := (F1 w hSw.2).1.1; have f2 := (F1 w hSw.2).1.2.1; have f3 := (F1 w hSw.2).1.2.2; have f4 := (F1 w hSw.2).2.1; have f5 := (F1 w hSw.2).2.2.1; have f6 := (F1 w hSw.2).2.2.2); go_simp; first | done | with_reducible rfl)); simp only [Act.put, List.setIfInBounds_toArray, List.set_cons_zero, List.set_cons_succ])
        refine wpAnyH_done (by kernel_rfl) ?_ _
        have Q6 := o6z4
        have Q7 := hownz4
        have QA := apz4
        have QS := sz4
        rw [← E1.out] at Q6
        rw [← E2.out] at Q7
        have H6 := Lib.hid Q6
        have H7 := Lib.hid Q7
        clear Q6 Q7
        go_wp2_with fail
        go_roundw
        case rel => exact ⟨k + 1, by omega, by go_num, H6.out, H7.out, QA, QS.1⟩
        case measure => simp [intOf]; omega
      · skip
        go_simp
        refine hK _ _ ?_ ?_ <;> clear hK K
        · exact ⟨sz1.1.alloc sz1.1.size _, sz1.2.alloc _⟩
        obtain ⟨z2, hz2⟩ : ∃ w', w' = z1.alloc (.cells #[.int .u8 (y.k : Int), .int .i64 y.n, txt y.t] 46) := ⟨_, rfl⟩
        have sz2 : Below w.heap.size w z2 ∧ Kp2 (Value.slice A6 k c6).ownBlock (Value.slice A7 k c7).ownBlock we z2 := by rw [hz2]; exact ⟨sz1.1.alloc sz1.1.size _, sz1.2.alloc _⟩
        have ryz2 : Rd z2 (z1.heap.size + 1) (some ⟨z1.heap.size, 0, none⟩) (cv y) := by rw [hz2]; exact cv_three y rfl
        have nyz2 : P ≤ z1.heap.size ∧ z1.heap.size < z2.heap.size := by rw [hz2]; have := sz1.2.1; constructor; omega; simp
        have o6z2 := own_bel o6z1 (w' := z2) (by rw [hz2]; exact (Below.refl _ _).alloc (Nat.le_refl _) _)
        have o7z2 := own_bel o7z1 (w' := z2) (by rw [hz2]; exact (Below.refl _ _).alloc (Nat.le_refl _) _)
        have rxz2 := Rd.alloc rxz1 (by omega) (.cells #[.int .u8 (y.k : Int), .int .i64 y.n, txt y.t] 46)
        rw [← hz2] at rxz2
        rw [← hz2]
        replace hS := sz2
        clear hz2
        try simp only [Act.put, List.setIfInBounds_toArray, List.set_cons_zero, List.set_cons_succ]
        refine mv_step 3 rfl (by kernel_rfl) (by rfl) (fun K hK => ?_)
        refine wp_app HEL _ _ rfl o6z2 rfl rfl (by exact rxz2) rfl (cv_one _) (by unfold maxLen; omega) (by have : (k + 1) * by_ ≤ 1000001 * 64 := Nat.mul_le_mul (by omega) hby; omega) sz2.1.size ?_; intro uz3 z3 hownz3 hgz3 horz3; refine hK _ _ ?_ ?_ <;> clear hK K
        · exact ⟨sz2.1.trans (own_below o6z2 hgz3 sz2.1.size), sz2.2.grown hgz3 (fun q hq e => .inl (by exact e))⟩
        have sz3 : Below w.heap.size w z3 ∧ Kp2 (Value.slice A6 k c6).ownBlock (Value.slice A7 k c7).ownBlock we z3 := ⟨sz2.1.trans (own_below o6z2 hgz3 sz2.1.size), sz2.2.grown hgz3 (fun q hq e => .inl (by exact e))⟩
        have gz3 : z2.grownBy z3 (Value.slice A6 k c6).ownBlock := hgz3
        have orz3 : uz3.ownBlock = (Value.slice A6 k c6).ownBlock ∨ uz3.ownBlock = some z2.heap.size := horz3
        have o7z3 := own_grown o7z2 gz3 (Ap.ne hap.symm)
        have apz3 : Ap uz3 (Value.slice A7 k c7) := (hap.symm.app o7z2 orz3 (Nat.le_refl _)).symm
        rw [← vcells_snoc] at hownz3
        have ryz3 := rd_grown ryz2 gz3 (by have := nyz2.2; omega) (fun e => by have := n6 _ e; have := nyz2.1; omega)
        replace hS := sz3
        clear hgz3 horz3
        try simp only [Act.put, List.setIfInBounds_toArray, List.set_cons_zero, List.set_cons_succ]
        refine mv_step 7 rfl (by kernel_rfl) (by rfl) (fun K hK => ?_)
        refine wp_app HEL _ _ rfl o7z3 rfl rfl (by exact ryz3) rfl (cv_one _) (by unfold maxLen; omega) (by have : (k + 1) * by_ ≤ 1000001 * 64 := Nat.mul_le_mul (by omega) hby; omega) sz3.1.size ?_; intro uz4 z4 hownz4 hgz4 horz4; refine hK _ _ ?_ ?_ <;> clear hK K
        · exact ⟨sz3.1.trans (own_below o7z3 hgz4 sz3.1.size), sz3.2.grown hgz4 (fun q hq e => .inr (by exact e))⟩
        have sz4 : Below w.heap.size w z4 ∧ Kp2 (Value.slice A6 k c6).ownBlock (Value.slice A7 k c7).ownBlock we z4 := ⟨sz3.1.trans (own_below o7z3 hgz4 sz3.1.size), sz3.2.grown hgz4 (fun q hq e => .inr (by exact e))⟩
        have gz4 : z3.grownBy z4 (Value.slice A7 k c7).ownBlock := hgz4
        have orz4 : uz4.ownBlock = (Value.slice A7 k c7).ownBlock ∨ uz4.ownBlock = some z3.heap.size := horz4
        have o6z4 := own_grown hownz3 gz4 (Ap.ne apz3)
        have apz4 : Ap uz3 uz4 := apz3.app hownz3 orz4 (Nat.le_refl _)
        rw [← vcells_snoc] at hownz4
        replace hS := sz4
        clear hgz4 horz4
        try simp only [Act.put, List.setIfInBounds_toArray, List.set_cons_zero, List.set_cons_succ]
        (refine mv_val 8 (v := ?_) rfl (by kernel_rfl) (by kernel_rfl) (by kernel_rfl) (fun _ _ _ h => h) (by rfl) hS ?_ ?_; rotate_left; (focus (intro w hSw; (try dsimp only at hSw); (have f1 := (F1 w hSw.2).1.1; have f2 := (F1 w hSw.2).1.2.1; have f3 := (F1 w hSw.2).1.2.2; have f4 := (F1 w hSw.2).2.1; have f5 := (F1 w hSw.2).2.2.1; have f6 := (F1 w hSw.2).2.2.2); go_simp; first | done | with_reducible rfl)); simp only [Act.put, List.setIfInBounds_toArray, List.set_cons_zero, List.set_cons_succ])
        (refine mv_val 9 (v := ?_) rfl (by kernel_rfl) (by kernel_rfl) (by kernel_rfl) (fun _ _ _ h => h) (by rfl) hS ?_ ?_; rotate_left; (focus (intro w hSw; (try dsimp only at hSw); (have f1 := (F1 w hSw.2).1.1; have f2 := (F1 w hSw.2).1.2.1; have f3 := (F1 w hSw.2).1.2.2; have f4 := (F1 w hSw.2).2.1; have f5 := (F1 w hSw.2).2.2.1; have f6 := (F1 w hSw.2).2.2.2); go_simp; first | done | with_reducible rfl)); simp only [Act.put, List.setIfInBounds_toArray, List.set_cons_zero, List.set_cons_succ])
        refine wpAnyH_done (by kernel_rfl) ?_ _
        have Q6 := o6z4
        have Q7 := hownz4
        have QA := apz4
        have QS := sz4
        rw [← E1.out] at Q6
        rw [← E2.out] at Q7
        have H6 := Lib.hid Q6
        have H7 := Lib.hid Q7
        clear Q6 Q7
        go_wp2_with fail
        go_roundw
        case rel => exact ⟨k + 1, by omega, by go_num, H6.out, H7.out, QA, QS.1⟩
        case measure => simp [intOf]; omega
    · skip
      go_simp
      refine hK _ _ ?_ ?_ <;> clear hK K
      · exact ⟨s0.1.alloc s0.1.size _, s0.2.alloc _⟩
      obtain ⟨z1, hz1⟩ : ∃ w', w' = wd.alloc (.cells #[.int .u8 (y.k : Int), .int .i64 y.n, txt y.t] 46) := ⟨_, rfl⟩
      have sz1 : Below w.heap.size w z1 ∧ Kp2 (Value.slice A6 k c6).ownBlock (Value.slice A7 k c7).ownBlock we z1 := by rw [hz1]; exact ⟨s0.1.alloc s0.1.size _, s0.2.alloc _⟩
      have ryz1 : Rd z1 (wd.heap.size + 1) (some ⟨wd.heap.size, 0, none⟩) (cv y) := by rw [hz1]; exact cv_three y rfl
      have nyz1 : P ≤ wd.heap.size ∧ wd.heap.size < z1.heap.size := by rw [hz1]; have := s0.2.1; constructor; omega; simp
      have o6z1 := own_bel o6 (w' := z1) (by rw [hz1]; exact (Below.refl _ _).alloc (Nat.le_refl _) _)
      have o7z1 := own_bel o7 (w' := z1) (by rw [hz1]; exact (Below.refl _ _).alloc (Nat.le_refl _) _)
      rw [← hz1]
      replace hS := sz1
      clear hz1
      try simp only [Act.put, List.setIfInBounds_toArray, List.set_cons_zero, List.set_cons_succ]
      refine mv_step 2 rfl (by kernel_rfl) (by rfl) (fun K hK => ?_)
      go_simp
      refine hK _ _ ?_ ?_ <;> clear hK K
      · exact ⟨sz1.1.alloc sz1.1.size _, sz1.2.alloc _⟩
      obtain ⟨z2, hz2⟩ : ∃ w', w' = z1.alloc (.cells #[.int .u8 (x.k : Int), .int .i64 x.n, txt x.t] 46) := ⟨_, rfl⟩
      have sz2 : Below w.heap.size w z2 ∧ Kp2 (Value.slice A6 k c6).ownBlock (Value.slice A7 k c7).ownBlock we z2 := by rw [hz2]; exact ⟨sz1.1.alloc sz1.1.size _, sz1.2.alloc _⟩
      have rxz2 : Rd z2 (z1.heap.size + 1) (some ⟨z1.heap.size, 0, none⟩) (cv x) := by rw [hz2]; exact cv_three x rfl
      have nxz2 : P ≤ z1.heap.size ∧ z1.heap.size < z2.heap.size := by rw [hz2]; have := sz1.2.1; constructor; omega; simp
      have o6z2 := own_bel o6z1 (w' := z2) (by rw [hz2]; exact (Below.refl _ _).alloc (Nat.le_refl _) _)
      have o7z2 := own_bel o7z1 (w' := z2) (by rw [hz2]; exact (Below.refl _ _).alloc (Nat.le_refl _) _)
      have ryz2 := Rd.alloc ryz1 (by omega) (.cells #[.int .u8 (x.k : Int), .int .i64 x.n, txt x.t] 46)
      rw [← hz2] at ryz2
      rw [← hz2]
      replace hS := sz2
      clear hz2
      try simp only [Act.put, List.setIfInBounds_toArray, List.set_cons_zero, List.set_cons_succ]
      refine mv_step 3 rfl (by kernel_rfl) (by rfl) (fun K hK => ?_)
      refine wp_app HEL _ _ rfl o6z2 rfl rfl (by exact rxz2) rfl (cv_one _) (by unfold maxLen; omega) (by have : (k + 1) * by_ ≤ 1000001 * 64 := Nat.mul_le_mul (by omega) hby; omega) sz2.1.size ?_; intro uz3 z3 hownz3 hgz3 horz3; refine hK _ _ ?_ ?_ <;> clear hK K
      · exact ⟨sz2.1.trans (own_below o6z2 hgz3 sz2.1.size), sz2.2.grown hgz3 (fun q hq e => .inl (by exact e))⟩
      have sz3 : Below w.heap.size w z3 ∧ Kp2 (Value.slice A6 k c6).ownBlock (Value.slice A7 k c7).ownBlock we z3 := ⟨sz2.1.trans (own_below o6z2 hgz3 sz2.1.size), sz2.2.grown hgz3 (fun q hq e => .inl (by exact e))⟩
      have gz3 : z2.grownBy z3 (Value.slice A6 k c6).ownBlock := hgz3
      have orz3 : uz3.ownBlock = (Value.slice A6 k c6).ownBlock ∨ uz3.ownBlock = some z2.heap.size := horz3
      have o7z3 := own_grown o7z2 gz3 (Ap.ne hap.symm)
      have apz3 : Ap uz3 (Value.slice A7 k c7) := (hap.symm.app o7z2 orz3 (Nat.le_refl _)).symm
      rw [← vcells_snoc] at hownz3
      have ryz3 := rd_grown ryz2 gz3 (by have := nyz1.2; omega) (fun e => by have := n6 _ e; have := nyz1.1; omega)
      replace hS := sz3
      clear hgz3 horz3
      try simp only [Act.put, List.setIfInBounds_toArray, List.set_cons_zero, List.set_cons_succ]
      refine mv_step 7 rfl (by kernel_rfl) (by rfl) (fun K hK => ?_)
      refine wp_app HEL _ _ rfl o7z3 rfl rfl (by exact ryz3) rfl (cv_one _) (by unfold maxLen; omega) (by have : (k + 1) * by_ ≤ 1000001 * 64 := Nat.mul_le_mul (by omega) hby; omega) sz3.1.size ?_; intro uz4 z4 hownz4 hgz4 horz4; refine hK _ _ ?_ ?_ <;> clear hK K
      · exact ⟨sz3.1.trans (own_below o7z3 hgz4 sz3.1.size), sz3.2.grown hgz4 (fun q hq e => .inr (by exact e))⟩
      have sz4 : Below w.heap.size w z4 ∧ Kp2 (Value.slice A6 k c6).ownBlock (Value.slice A7 k c7).ownBlock we z4 := ⟨sz3.1.trans (own_below o7z3 hgz4 sz3.1.size), sz3.2.grown hgz4 (fun q hq e => .inr (by exact e))⟩
      have gz4 : z3.grownBy z4 (Value.slice A7 k c7).ownBlock := hgz4
      have orz4 : uz4.ownBlock = (Value.slice A7 k c7).ownBlock ∨ uz4.ownBlock = some z3.heap.size := horz4
      have o6z4 := own_grown hownz3 gz4 (Ap.ne apz3)
      have apz4 : Ap uz3 uz4 := apz3.app hownz3 orz4 (Nat.le_refl _)
      rw [← vcells_snoc] at hownz4
      replace hS := sz4
      clear hgz4 horz4
      try simp only [Act.put, List.setIfInBounds_toArray, List.set_cons_zero, List.set_cons_succ]
      (refine mv_val 8 (v := ?_) rfl (by kernel_rfl) (by kernel_rfl) (by kernel_rfl) (fun _ _ _ h => h) (by rfl) hS ?_ ?_; rotate_left; (focus (intro w hSw; (try dsimp only at hSw); (have f1 := (F1 w hSw.2).1.1; have f2 := (F1 w hSw.2).1.2.1; have f3 := (F1 w hSw.2).1.2.2; have f4 := (F1 w hSw.2).2.1; have f5 := (F1 w hSw.2).2.2.1; have f6 := (F1 w hSw.2).2.2.2); go_simp; first | done | with_reducible rfl)); simp only [Act.put, List.setIfInBounds_toArray, List.set_cons_zero, List.set_cons_succ])
      (refine mv_val 9 (v := ?_) rfl (by kernel_rfl) (by kernel_rfl) (by kernel_rfl) (fun _ _ _ h => h) (by rfl) hS ?_ ?_; rotate_left; (focus (intro w hSw; (try dsimp only at hSw); (have f1 := (F1 w hSw.2).1.1; have f2 := (F1 w hSw.2).1.2.1; have f3 := (F1 w hSw.2).1.2.2; have f4 := (F1 w hSw.2).2.1; have f5 := (F1 w hSw.2).2.2.1; have f6 := (F1 w hSw.2).2.2.2); go_simp; first | done | with_reducible rfl)); simp only [Act.put, List.setIfInBounds_toArray, List.set_cons_zero, List.set_cons_succ])
      refine wpAnyH_done (by kernel_rfl) ?_ _
      have Q6 := o6z4
      have Q7 := hownz4
      have QA := apz4
      have QS := sz4
      rw [← E1.out] at Q6
      rw [← E2.out] at Q7
      have H6 := Lib.hid Q6
      have H7 := Lib.hid Q7
      clear Q6 Q7
      go_wp2_with fail
      go_roundw
      case rel => exact ⟨k + 1, by omega, by go_num, H6.out, H7.out, QA, QS.1⟩
      case measure => simp [intOf]; omega
end Go.Proofs.Ythkpgjcnnfdibaa

/-! Plain: what Make asks of rows, columns and their bytes. No program in sight. -/
namespace Go.Proofs.Ythkpgjcnnfdibaa
open Go.RowKit
set_option linter.unusedVariables false

theorem rmay_nul (t : UInt8) : rmay t null = true := by unfold rmay null; simp [mayB]
theorem mays_nuls : ∀ T : List UInt8, mays T (List.replicate T.length null) = true
  | [] => rfl
  | t :: T => by
    rw [List.length_cons, List.replicate_succ]
    unfold mays
    rw [rmay_nul, mays_nuls T]; rfl
theorem rowok_nuls (T : List UInt8) : rowok T (List.replicate T.length null) = true := by
  unfold rowok
  rw [mays_nuls]; simp
theorem rput_nuls (T : List UInt8) : (rput T (List.replicate T.length null)).2 = if knownT T = true then 0 else 1 := by
  unfold rput
  rw [rowok_nuls, Bool.and_true]
  split <;> simp_all
theorem rput_code {T : List UInt8} (hT : knownT T = true) (l : List V) : (rput T l).2 = if rowok T l = true then 0 else 1 := by
  unfold rput
  rw [hT, Bool.true_and]
  split <;> simp_all
theorem rowok_len {T : List UInt8} {l : List V} (h : rowok T l = true) : l.length = T.length := by
  unfold rowok at h
  rw [Bool.and_eq_true] at h
  simpa using h.1
theorem mays_at : ∀ {T : List UInt8} {l : List V} {i : Nat} {t : UInt8} {v : V}, mays T l = true → T[i]? = some t → l[i]? = some v → rmay t v = true
  | t :: T, v :: l, 0, t', v', h, ht, hv => by
    simp at ht hv
    subst ht hv
    unfold mays at h
    rw [Bool.and_eq_true] at h
    exact h.1
  | t :: T, v :: l, i + 1, t', v', h, ht, hv => by
    unfold mays at h
    rw [Bool.and_eq_true] at h
    exact mays_at h.2 (by simpa using ht) (by simpa using hv)
theorem rowok_at {T : List UInt8} {l : List V} {i : Nat} {t : UInt8} {v : V} (h : rowok T l = true) (ht : T[i]? = some t) (hv : l[i]? = some v) : rmay t v = true := by
  unfold rowok at h
  rw [Bool.and_eq_true] at h
  exact mays_at h.2 ht hv
theorem rowsOk_mem {T : List UInt8} {rows : List (List V)} (h : rowsOk T rows = true) : ∀ r ∈ rows, rowok T r = true := List.all_eq_true.1 h
theorem col_ok {T : List UInt8} {rows : List (List V)} {i : Nat} {t : UInt8} (hT : knownT T = true) (h : rowsOk T rows = true) (hl : rows.length ≤ 65536) (ht : T[i]? = some t) : colok t (colAt rows i) = true := by
  unfold colok
  have h1 : tyok t = true := List.all_eq_true.1 hT t (List.mem_of_getElem? ht)
  rw [h1, colAt_length, decide_eq_true hl, Bool.true_and, Bool.true_and, List.all_eq_true]
  intro v hv
  obtain ⟨r, hr, rfl⟩ := List.mem_map.1 hv
  have hro := rowsOk_mem h r hr
  have hlen := rowok_len hro
  have hi : i < r.length := by rw [hlen]; exact (List.getElem?_eq_some_iff.1 ht).1
  rw [List.getElem?_eq_getElem hi]
  exact rowok_at hro ht (List.getElem?_eq_getElem hi)
theorem colAt_mem {rows : List (List V)} {i : Nat} {v : V} (h : v ∈ colAt rows i) : v = null ∨ ∃ r ∈ rows, v ∈ r := by
  obtain ⟨r, hr, rfl⟩ := List.mem_map.1 h
  rcases hx : r[i]? with _ | u
  · left; rfl
  · right; exact ⟨r, hr, List.mem_of_getElem? hx⟩
theorem colAt_vsm {rows : List (List V)} (h : ∀ r ∈ rows, ∀ v ∈ r, vsm v) (i : Nat) : ∀ v ∈ colAt rows i, vsm v := by
  intro v hv
  rcases colAt_mem hv with rfl | ⟨r, hr, hv⟩
  · exact vsm_null
  · exact h r hr v hv
theorem colsOf_mem {m : Nat} {rows : List (List V)} {l : List V} (h : l ∈ colsOf m rows) : ∃ i, i < m ∧ l = colAt rows i := by
  obtain ⟨i, hi, rfl⟩ := List.mem_map.1 h
  exact ⟨i, List.mem_range.1 hi, rfl⟩
/-! ### a column's bytes are bounded by its part -/
theorem cbody_le {t : UInt8} {l : List V} (h : colok t l = true) : (cbody t (marks l)).length ≤ (cput t l).1.length := by
  rw [cput_of h]
  simp only [List.length_append]; omega
theorem mayB_text {v : V} (h : mayB v = true) (h1 : v.k = 1 ∨ v.k = 2) : v.t = [] := by
  rcases mayB_k h with ⟨h0, _⟩ | ⟨_, _, h2⟩ | ⟨_, h2⟩ | ⟨h3, _⟩
  · omega
  · exact h2
  · exact h2
  · omega
theorem words_le2 {t : UInt8} {l : List V} (h : colok t l = true) (hl : l.length ≤ 65536) : ((words (marks l)).flatMap wbytes).length ≤ (cput t l).1.length + 1000000 := by
  obtain ⟨h1, _, h3⟩ := colok_parts h
  have hb := cbody_le h
  rcases tyok3 h1 with ht | ht | ht
  · have h0 : ∀ w ∈ words (marks l), w.length ≤ 0 := fun w hw => by
      obtain ⟨v, hv, rfl⟩ := words_of hw
      obtain ⟨hv1, hv2⟩ := mem_marks.1 hv
      obtain ⟨k1, k2⟩ := rmay_k (h3 v hv1) hv2
      rw [mayB_text k2 (by omega)]; simp
    have := flat_bound h0 (by omega)
    have h4 := words_le (marks l)
    have h5 := marks_len l
    have : (words (marks l)).length * (0 + 10) ≤ 65536 * 10 := Nat.mul_le_mul (by omega) (by omega)
    omega
  · have h0 : ∀ w ∈ words (marks l), w.length ≤ 0 := fun w hw => by
      obtain ⟨v, hv, rfl⟩ := words_of hw
      obtain ⟨hv1, hv2⟩ := mem_marks.1 hv
      obtain ⟨k1, k2⟩ := rmay_k (h3 v hv1) hv2
      rw [mayB_text k2 (by omega)]; simp
    have := flat_bound h0 (by omega)
    have h4 := words_le (marks l)
    have h5 := marks_len l
    have : (words (marks l)).length * (0 + 10) ≤ 65536 * 10 := Nat.mul_le_mul (by omega) (by omega)
    omega
  · have e : cbody t (marks l) = tput (marks l) := by unfold cbody; rw [if_neg (by omega), if_neg (by omega)]
    rw [e] at hb
    unfold tput at hb
    simp only [List.length_append] at hb
    omega
/-! ### the bytes as they grow -/
def segTo (T : List UInt8) (n : Nat) (cs : List (List V)) (i : Nat) : List UInt8 := segHead T n cs ++ ((T.zip cs).take i).flatMap cpart
theorem segTo_0 (T : List UInt8) (n : Nat) (cs : List (List V)) : segTo T n cs 0 = segHead T n cs := by simp [segTo]
theorem segTo_next {T : List UInt8} {n : Nat} {cs : List (List V)} {i : Nat} {t : UInt8} {l : List V} (ht : T[i]? = some t) (hl : cs[i]? = some l) : segTo T n cs (i + 1) = segTo T n cs i ++ part1 (cput t l).1 := by
  have hz : (T.zip cs)[i]? = some (t, l) := by rw [List.getElem?_zip_eq_some]; exact ⟨ht, hl⟩
  unfold segTo
  rw [List.take_add_one, hz, List.flatMap_append, List.append_assoc]
  simp [cpart]
theorem segTo_end {T : List UInt8} {n : Nat} {cs : List (List V)} (h : cs.length = T.length) : segTo T n cs T.length = segBytes T n cs := by
  unfold segTo segBytes
  rw [List.take_of_length_le (by simp [h])]
theorem segTo_le (T : List UInt8) (n : Nat) (cs : List (List V)) (i : Nat) : (segTo T n cs i).length ≤ (segBytes T n cs).length := by
  unfold segTo segBytes
  rw [List.length_append, List.length_append]
  have h := congrArg (fun l => (l.flatMap cpart).length) (List.take_append_drop i (T.zip cs))
  simp only [List.flatMap_append, List.length_append] at h
  omega
theorem part1_le (p : List UInt8) : p.length ≤ (part1 p).length := by unfold part1; rw [List.length_append]; omega
theorem segHead_le (T : List UInt8) (n : Nat) (cs : List (List V)) : (rput T (least cs)).1.length + (rput T (greatest cs)).1.length + (vput n).length ≤ (segHead T n cs).length := by
  unfold segHead
  rw [List.length_append, List.length_append]
  have h1 := part1_le (rput T (least cs)).1
  have h2 := part1_le (rput T (greatest cs)).1
  omega
theorem segBytes_pos (T : List UInt8) (n : Nat) (cs : List (List V)) : 0 < (segBytes T n cs).length := by
  unfold segBytes
  rw [List.length_append]
  have h := segHead_le T n cs
  have h2 := vput_pos n
  omega
/-- the least and the greatest values are a row of the types -/
theorem bnd_may {t : UInt8} {l : List V} (h : ∀ v ∈ l, rmay t v = true) : rmay t (bnds l).1 = true ∧ rmay t (bnds l).2 = true := by
  obtain ⟨h1, h2⟩ := bnds_in l
  refine ⟨?_, ?_⟩
  · rcases h1 with h1 | h1
    · rw [h1]; exact rmay_nul t
    · exact h _ h1
  · rcases h2 with h2 | h2
    · rw [h2]; exact rmay_nul t
    · exact h _ h2
theorem mays_of : ∀ (T : List UInt8) (l : List V), (∀ (i : Nat) (t : UInt8) (v : V), T[i]? = some t → l[i]? = some v → rmay t v = true) → mays T l = true
  | [], _, _ => by simp [mays]
  | t :: T, [], _ => by simp [mays]
  | t :: T, v :: l, h => by
    unfold mays
    rw [h 0 t v rfl rfl, mays_of T l fun i t' v' ht hv => h (i + 1) t' v' (by simpa using ht) (by simpa using hv)]; rfl
theorem bnds_ok {T : List UInt8} {cs : List (List V)} (hl : cs.length = T.length) (h : ∀ (i : Nat) (t : UInt8) (l : List V), T[i]? = some t → cs[i]? = some l → ∀ v ∈ l, rmay t v = true) : rowok T (least cs) = true ∧ rowok T (greatest cs) = true := by
  unfold rowok
  rw [least_length, greatest_length, decide_eq_true hl, Bool.true_and, Bool.true_and]
  refine ⟨mays_of _ _ fun i t v ht hv => ?_, mays_of _ _ fun i t v ht hv => ?_⟩
  · unfold least at hv
    rw [List.getElem?_map] at hv
    obtain ⟨l, hl0, rfl⟩ := Option.map_eq_some_iff.1 hv
    exact (bnd_may (h i t l ht hl0)).1
  · unfold greatest at hv
    rw [List.getElem?_map] at hv
    obtain ⟨l, hl0, rfl⟩ := Option.map_eq_some_iff.1 hv
    exact (bnd_may (h i t l ht hl0)).2
end Go.Proofs.Ythkpgjcnnfdibaa

/- Joined texts: see the remark ahead of each part. No condition but those that the parts name. -/
import Derived.Test.YthkpgjcnnfdibaaSge
/-! The walks of segment.Open and segment.Bounds (layer 7): the rows that pieces say, the least and greatest values; or the error. No condition but sizes. Printed by gen_sgv.py. -/
namespace Go.Proofs.Ythkpgjcnnfdibaa
open Go.RowKit Go.Maps
set_option linter.unusedVariables false
set_option linter.unusedSimpArgs false

/-- What a call that answers rows of values and an error leaves. -/
def RetVVE (w : World) (r : List (List V) × Nat) (e : Ending) (w' : World) : Prop :=
  ∃ A c, e = .returned (.tuple #[.slice A r.1.length c, .int .i64 (r.2 : Int)]) ∧ OwnVV w' w.heap.size (.slice A r.1.length c) r.1 ∧ Below w.heap.size w w'
theorem retVVE_err {w w' : World} {r : List (List V) × Nat} {x : Nat} (h : r = ([], x)) (hb : Below w.heap.size w w') : RetVVE w r (.returned (.tuple #[.slice none 0 0, .int .i64 (x : Int)])) w' := by
  subst h
  exact ⟨none, 0, rfl, OwnN.nil _ _, hb⟩
def rowsE (s : Seg) : List (List V) × Nat := (rowsOf s.n s.cols, s.e)
theorem rowsE_err (e : Nat) : rowsE (segErr e) = ([], e) := rfl
theorem rows_cols (n : Nat) (cs : List (List V)) : rowsOf n cs = colsOf n cs := rfl
theorem retVVE_end {w w1 wr : World} {n : Nat} {cs : List (List V)} {A : Option Addr} (hb1 : Below w.heap.size w w1) (ho : OwnVV wr w1.heap.size (.slice A n n) (colsOf n cs)) (hb : Below w1.heap.size w1 wr) : RetVVE w (rowsOf n cs, 0) (.returned (.tuple #[.slice A n n, .int .i64 0])) wr := by
  rw [rows_cols]
  have h := colsOf_length n cs
  have h2 := OwnN.lower ho hb1.size
  obtain ⟨l, hl⟩ : ∃ l, l = colsOf n cs := ⟨_, rfl⟩
  rw [← hl] at h h2 ⊢
  clear hl
  subst h
  exact ⟨A, l.length, rfl, h2, hb1.trans (hb.mono hb1.size)⟩
/-- What a call that answers two rows of values and an error leaves. -/
def RetBnd (w : World) (s : Seg) (e : Ending) (w' : World) : Prop :=
  ∃ A1 c1 A2 c2, e = .returned (.tuple #[.slice A1 s.lo.length c1, .slice A2 s.hi.length c2, .int .i64 (s.e : Int)]) ∧ Rd w' w'.heap.size A1 (vcells s.lo) ∧ Rd w' w'.heap.size A2 (vcells s.hi) ∧ Below w.heap.size w w'
set_option maxRecDepth 100000 in
theorem sgbounds_any (A A' : Option Addr) (c c' : Nat) (T : List UInt8) (ps : List (List UInt8)) (w : World) (hT : Rd w w.heap.size A (cells T)) (hr : RdBB w w.heap.size A' ps) (hTl : T.length ≤ 1000) (hl : ps.length ≤ 1000000000)
    (hL : ps.flatten.length ≤ 1000000) (hn : (vget ps.flatten).1 ≤ 65536 → ((vget ps.flatten).1 + 1) * (ps.flatten.length + 10) ≤ 4000000000) :
    Calls Try.prog 20 #[.slice A T.length c, .slice A' ps.length c'] w (RetBnd w (sopen T ps)) := by
  have K := sread_any A A' c c' T ps w hT hr hTl hl hL hn
  obtain ⟨s, hs⟩ : ∃ s, s = sopen T ps := ⟨_, rfl⟩
  rw [← hs] at K ⊢
  have HK := Lib.hid K
  clear K hs hT hr hL hn
  go_enter Try.func20, Try.ntmps20
  go_wp2_with fail
  refine HK.out.mono ?_; rintro e w1 ⟨A0, c0, A1, c1, A2, c2, rfl, _, r1, r2, hb1⟩
  have R1 := Lib.hid r1
  have R2 := Lib.hid r2
  clear r1 r2
  go_wp2_with fail
  go_ret3
  exact ⟨A1, c1, A2, c2, rfl, R1.out, R2.out, hb1⟩
set_option maxHeartbeats 4000000 in
set_option maxRecDepth 100000 in
theorem sgopen_any (A A' : Option Addr) (c c' : Nat) (T : List UInt8) (ps : List (List UInt8)) (w : World) (hT : Rd w w.heap.size A (cells T)) (hr : RdBB w w.heap.size A' ps) (hTl : T.length ≤ 1000) (hl : ps.length ≤ 1000000000)
    (hL : ps.flatten.length ≤ 1000000) (hn : (vget ps.flatten).1 ≤ 65536 → ((vget ps.flatten).1 + 1) * (ps.flatten.length + 10) ≤ 4000000000) :
    Calls Try.prog 18 #[.slice A T.length c, .slice A' ps.length c'] w (RetVVE w (rowsE (sopen T ps))) := by
  have K := sread_any A A' c c' T ps w hT hr hTl hl hL hn
  have hor := segErr_or T ps hL
  have hinv := fun h => sopen_inv (T := T) hL h
  obtain ⟨s, hs⟩ : ∃ s, s = sopen T ps := ⟨_, rfl⟩
  rw [← hs] at K hor hinv ⊢
  by_cases he : s.e = 0
  case neg =>
    have hse : s = segErr s.e := by
      rcases hor with h | h
      · exact absurd h he
      · exact h
    have HE := Lib.hid (show rowsE s = ([], s.e) by rw [hse]; rfl)
    obtain ⟨x, hx⟩ : ∃ x, x = s.e := ⟨_, rfl⟩
    have HK := Lib.hid K
    rw [← hx] at he HE
    have hxI : ((x : Int) != 0) = true := by simp; omega
    have HX := Lib.hid hx
    clear K hor hinv hse hx hs hT hr hL hn
    go_enter Try.func18, Try.ntmps18
    go_wp2_with fail
    refine HK.out.mono ?_; rintro e w1 ⟨A0, c0, A1, c1, A2, c2, rfl, _, _, _, hb1⟩
    rw [← HX.out]
    go_wp2_with fail
    go_ret2
    exact retVVE_err HE.out hb1
  obtain ⟨hk, cs, n, hn2, hc, hpc, hse⟩ := hinv he
  clear hpc
  rw [hse] at K ⊢
  dsimp only [rowsE] at K ⊢
  have hcl := hc.1
  have HRL := Lib.hid (show ∀ r ∈ cs, r.length = n from fun r h => (hc.mem h).1)
  have hl : cs.length ≤ 1000000 := by omega
  obtain ⟨lo, hlo⟩ : ∃ lo, lo = least cs := ⟨_, rfl⟩
  obtain ⟨hi, hhi⟩ : ∃ hi, hi = greatest cs := ⟨_, rfl⟩
  rw [← hlo, ← hhi] at K
  have K2 : Calls Try.prog 37 #[.slice A T.length c, .slice A' ps.length c'] w fun e w' => ∃ A c A1 c1 A2 c2, e = .returned (.tuple #[.slice A cs.length c, .int .i64 (n : Int), .slice A1 lo.length c1, .slice A2 hi.length c2, .int .i64 0]) ∧ RdVV w' w'.heap.size A cs ∧ Below w.heap.size w w' :=
    K.mono (by rintro e w' ⟨A, c, A1, c1, A2, c2, he, h1, _, _, h2⟩; exact ⟨A, c, A1, c1, A2, c2, he, h1, h2⟩)
  have HK := Lib.hid K2
  obtain ⟨by_, HEL, hby⟩ := El_val
  clear K K2 hor hinv hse hs hT hr hL hn hlo hhi hc hcl he hk hTl s
  go_enter Try.func18, Try.ntmps18
  go_wp2_with fail
  refine HK.out.mono ?_; rintro e w1 ⟨A0, c0, A1, c1, A2, c2, rfl, rd1, hb1⟩
  obtain ⟨w2, hmk, hown2, hb2⟩ := make_vv w1 n (by omega)
  rw [← stCols_0 n cs] at hown2
  obtain ⟨g, hg⟩ : ∃ g, g = w1.heap.size := ⟨_, rfl⟩
  have HG := Lib.hid hg
  have HFIN := Lib.hid (fun (wr : World) (ho : OwnVV wr w1.heap.size (.slice (some ⟨w1.heap.size, 0, none⟩) n n) (colsOf n cs)) (hb : Below w1.heap.size w1 wr) => retVVE_end hb1 ho hb)
  clear HK hb1
  go_wp2_with fail
  rw [← hg] at hown2 ⊢
  clear hg hmk
  go_loopw [30] (fun v30 wr => ∃ i : Nat, i ≤ n ∧ v30 = .int .i64 i ∧ OwnVV wr g (.slice (some ⟨g, 0, none⟩) n n) (stCols n cs i 0) ∧ Below w1.heap.size w1 wr) (fun v30 _ => n - (intOf v30).toNat)
  case atStart => exact ⟨0, by omega, rfl, hown2, hb2⟩
  case round =>
    obtain ⟨i, hi, rfl, hown, hbel⟩ := hrel
    clear hown2 hb2
    by_cases hlt : i < n
    case neg =>
      have hkk : i = n := by omega
      have hge : (n : Int) ≤ (i : Int) := by omega
      rw [hkk, stCols_end, HG.out] at hown
      have HO := Lib.hid hown
      clear hown hkk
      go_wp2_with fail
      go_ret2
      rw [HG.out]
      exact HFIN.out wr HO.out hbel
    have hiI : (i : Int) < (n : Int) := by omega
    go_wp2_with fail
    obtain ⟨wq, hwq⟩ : ∃ w9, w9 = wr := ⟨_, rfl⟩
    subst hwq
    go_loopw [35] (fun v35 wr => ∃ k : Nat, k ≤ cs.length ∧ v35 = .int .i64 k ∧ OwnVV wr g (.slice (some ⟨g, 0, none⟩) n n) (stCols n cs i k) ∧ Below w1.heap.size w1 wr) (fun v35 _ => cs.length - (intOf v35).toNat)
    case atStart => exact ⟨0, by omega, rfl, hown, hbel⟩
    case round =>
      obtain ⟨k, hk, rfl, hownR, hbelR⟩ := hrel
      clear hown hbel
      by_cases hlk : k < cs.length
      case neg =>
        have hkk : k = cs.length := by omega
        have hge : (cs.length : Int) ≤ (k : Int) := by omega
        rw [hkk, stCols_next] at hownR
        have HO := Lib.hid hownR
        clear hownR hkk
        go_wp2_with fail
        go_roundw
        case rel => exact ⟨i + 1, by omega, by go_num, HO.out, hbelR⟩
        case measure => simp [intOf]; omega
      obtain ⟨r, hr0⟩ : ∃ r, cs[k]? = some r := ⟨_, List.getElem?_eq_getElem hlk⟩
      have hrl := HRL.out r (List.mem_of_getElem? hr0)
      obtain ⟨v, hv⟩ : ∃ v, r[i]? = some v := ⟨_, List.getElem?_eq_getElem (by omega)⟩
      obtain ⟨ga, oa, a1, ca, rfl, hga, q0, hca, hra⟩ := rdN_at rd1 hr0
      obtain ⟨gr, or, rfl, hgr, p0, p1, p2⟩ := rd_val hra hv
      have q1 := (hbelR.cell (p := ⟨ga, oa + k, none⟩) (by show ga < _; omega)).trans q0
      have F1 : ∀ w', Below w1.heap.size w1 w' → w'.cell? ⟨gr, or + i * 3, none⟩ = some (.int .u8 (v.k : Int)) ∧ w'.cell? ⟨gr, or + i * 3 + 1, none⟩ = some (.int .i64 v.n) ∧ w'.cell? ⟨gr, or + i * 3 + 2, none⟩ = some (txt v.t) := fun w' hb => ⟨(hb.cell (p := ⟨gr, or + i * 3, none⟩) (by show gr < _; omega)).trans p0, (hb.cell (p := ⟨gr, or + i * 3 + 1, none⟩) (by show gr < _; omega)).trans p1, (hb.cell (p := ⟨gr, or + i * 3 + 2, none⟩) (by show gr < _; omega)).trans p2⟩
      have hat := stCols_at cs k hlt
      have HCT := Lib.hid (colAt_take hr0 hv)
      have HST := Lib.hid (stCols_set (k := k) cs hlt)
      obtain ⟨C, hC⟩ : ∃ C, C = (colAt cs i).take k := ⟨_, rfl⟩
      have hCl : C.length ≤ 1000000 := by rw [hC, List.length_take, colAt_length]; omega
      rw [← hC] at hat HCT
      have HAT := Lib.hid hat
      have hkI : (k : Int) < (cs.length : Int) := by omega
      have hir : i < r.length := by omega
      have hirI : (i : Int) < (r.length : Int) := by omega
      obtain ⟨we, hwe⟩ : ∃ we, we = wr.drew := ⟨_, rfl⟩
      have ownE : OwnVV we g (.slice (some ⟨g, 0, none⟩) n n) (stCols n cs i k) := by rw [hwe]; exact hownR
      have belE : Below w1.heap.size w1 we := by rw [hwe]; exact hbelR.drew
      obtain ⟨s, sc, sf, sn, scap, so⟩ := ownE.at HAT.out
      have hgs : g < we.heap.size := cell_lt sc
      obtain ⟨s1, s2, s3⟩ := s
      dsimp only at sn
      subst sn
      simp only [sl3] at sc so
      have hgw : w1.heap.size ≤ g := by have := HG.out; omega
      clear q0 p0 p1 p2 hr0 hv hC hat hownR hra scap
      go_wp2_with fail
      refine ah_start 14 (fun w' => Below w1.heap.size w1 w') rfl (by kernel_rfl) hbelR.drew ?_ ; intro hS
      rw [← hwe]
      rw [← hwe] at hS
      clear hwe hbelR q1
      (refine mv_val 0 (v := ?_) rfl (by kernel_rfl) (by kernel_rfl) (by kernel_rfl) (fun _ _ _ h => h) (by rfl) hS ?_ ?_; rotate_left; (focus (intro w hSw; (try dsimp only at hSw); (have f1 := (F1 w hSw).1; have f2 := (F1 w hSw).2.1; have f3 := (F1 w hSw).2.2; have f4 := hir; have f5 := hirI; have f6 := hlt; have f7 := hiI); go_simp; first | done | with_reducible rfl)); simp only [Act.put, List.setIfInBounds_toArray, List.set_cons_zero, List.set_cons_succ])
      (refine mv_val 1 (v := ?_) rfl (by kernel_rfl) (by kernel_rfl) (by kernel_rfl) (fun _ _ _ h => h) (by rfl) hS ?_ ?_; rotate_left; (focus (intro w hSw; (try dsimp only at hSw); (have f1 := (F1 w hSw).1; have f2 := (F1 w hSw).2.1; have f3 := (F1 w hSw).2.2; have f4 := hir; have f5 := hirI; have f6 := hlt; have f7 := hiI); go_simp; first | done | with_reducible rfl)); simp only [Act.put, List.setIfInBounds_toArray, List.set_cons_zero, List.set_cons_succ])
      (refine mv_val 2 (v := ?_) rfl (by kernel_rfl) (by kernel_rfl) (by kernel_rfl) (fun _ _ _ h => h) (by rfl) hS ?_ ?_; rotate_left; (focus (intro w hSw; (try dsimp only at hSw); (have f1 := (F1 w hSw).1; have f2 := (F1 w hSw).2.1; have f3 := (F1 w hSw).2.2; have f4 := hir; have f5 := hirI; have f6 := hlt; have f7 := hiI); go_simp; first | done | with_reducible rfl)); simp only [Act.put, List.setIfInBounds_toArray, List.set_cons_zero, List.set_cons_succ])
      (refine mv_val 3 (v := ?_) rfl (by kernel_rfl) (by kernel_rfl) (by kernel_rfl) (fun _ _ _ h => h) (by rfl) hS ?_ ?_; rotate_left; (focus (intro w hSw; (try dsimp only at hSw); (have f1 := (F1 w hSw).1; have f2 := (F1 w hSw).2.1; have f3 := (F1 w hSw).2.2; have f4 := hir; have f5 := hirI; have f6 := hlt; have f7 := hiI); go_simp; first | done | with_reducible rfl)); simp only [Act.put, List.setIfInBounds_toArray, List.set_cons_zero, List.set_cons_succ])
      (refine mv_val 4 (v := ?_) rfl (by kernel_rfl) (by kernel_rfl) (by kernel_rfl) (fun _ _ _ h => h) (by rfl) hS ?_ ?_; rotate_left; (focus (intro w hSw; (try dsimp only at hSw); (have f1 := (F1 w hSw).1; have f2 := (F1 w hSw).2.1; have f3 := (F1 w hSw).2.2; have f4 := hir; have f5 := hirI; have f6 := hlt; have f7 := hiI); go_simp; first | done | with_reducible rfl)); simp only [Act.put, List.setIfInBounds_toArray, List.set_cons_zero, List.set_cons_succ])
      (refine mv_val 6 (v := ?_) rfl (by kernel_rfl) (by kernel_rfl) (by kernel_rfl) (fun _ _ _ h => h) (by rfl) hS ?_ ?_; rotate_left; (focus (intro w hSw; (try dsimp only at hSw); (have f1 := (F1 w hSw).1; have f2 := (F1 w hSw).2.1; have f3 := (F1 w hSw).2.2; have f4 := hir; have f5 := hirI; have f6 := hlt; have f7 := hiI); go_simp; first | done | with_reducible rfl)); simp only [Act.put, List.setIfInBounds_toArray, List.set_cons_zero, List.set_cons_succ])
      (refine mv_val 7 (v := ?_) rfl (by kernel_rfl) (by kernel_rfl) (by kernel_rfl) (fun _ _ _ h => h) (by rfl) hS ?_ ?_; rotate_left; (focus (intro w hSw; (try dsimp only at hSw); (have f1 := (F1 w hSw).1; have f2 := (F1 w hSw).2.1; have f3 := (F1 w hSw).2.2; have f4 := hir; have f5 := hirI; have f6 := hlt; have f7 := hiI); go_simp; first | done | with_reducible rfl)); simp only [Act.put, List.setIfInBounds_toArray, List.set_cons_zero, List.set_cons_succ])
      (refine mv_val 8 (v := ?_) rfl (by kernel_rfl) (by kernel_rfl) (by kernel_rfl) (fun _ _ _ h => h) (by rfl) hS ?_ ?_; rotate_left; (focus (intro w hSw; (try dsimp only at hSw); (have f1 := (F1 w hSw).1; have f2 := (F1 w hSw).2.1; have f3 := (F1 w hSw).2.2; have f4 := hir; have f5 := hirI; have f6 := hlt; have f7 := hiI); go_simp; first | done | with_reducible rfl)); simp only [Act.put, List.setIfInBounds_toArray, List.set_cons_zero, List.set_cons_succ])
      (refine mv_val 9 (v := ?_) rfl (by kernel_rfl) (by kernel_rfl) (by kernel_rfl) (fun _ _ _ h => h) (by rfl) hS ?_ ?_; rotate_left; (focus (intro w hSw; (try dsimp only at hSw); (have f1 := (F1 w hSw).1; have f2 := (F1 w hSw).2.1; have f3 := (F1 w hSw).2.2; have f4 := hir; have f5 := hirI; have f6 := hlt; have f7 := hiI); go_simp; first | done | with_reducible rfl)); simp only [Act.put, List.setIfInBounds_toArray, List.set_cons_zero, List.set_cons_succ])
      refine mv_two 5 10 rfl rfl (by kernel_rfl) (by rfl) (by rfl) (fun K hK => ?_) (fun K hK => ?_)
      · skip
        go_simp
        refine hK _ _ ?_ ?_ <;> clear hK K
        · exact hS
        try simp only [Act.put, List.setIfInBounds_toArray, List.set_cons_zero, List.set_cons_succ]
        refine mv_step 10 rfl (by kernel_rfl) (by rfl) (fun K hK => ?_)
        go_simp
        refine hK _ _ ?_ ?_ <;> clear hK K
        · exact (belE.alloc belE.size _)
        try simp only [Act.put, List.setIfInBounds_toArray, List.set_cons_zero, List.set_cons_succ]
        refine mv_step 11 rfl (by kernel_rfl) (by rfl) (fun K hK => ?_)
        refine wp_app HEL _ _ rfl (by exact so.alloc _) rfl rfl (by exact cv_three v rfl) rfl (cv_one _) (by unfold maxLen; omega) (by have : (C.length + 1) * by_ ≤ 1000001 * 64 := Nat.mul_le_mul (by omega) hby; omega) (by show g ≤ (we.alloc _).heap.size; simp; omega) ?_; intro v7 w7 hown7 hg7 hor7; refine hK _ _ ?_ ?_ <;> clear hK K
        · exact (belE.alloc belE.size _).trans ((own_below (by exact so.alloc _) hg7 (by show g ≤ (we.alloc _).heap.size; simp; omega)).mono hgw)
        have b7 : Below w1.heap.size w1 w7 := (belE.alloc belE.size _).trans ((own_below (by exact so.alloc _) hg7 (by show g ≤ (we.alloc _).heap.size; simp; omega)).mono hgw)
        rw [← vcells_snoc, ← List.length_singleton (a := v), ← List.length_append] at hown7
        obtain ⟨A7, c7, rfl, _⟩ := own_form hown7
        have hg8 : (we.alloc (.cells #[.int .u8 (v.k : Int), .int .i64 v.n, txt v.t] 46)).grownBy w7 (Value.slice s1 C.length s3).ownBlock := hg7
        have hor8 : (Value.slice A7 (C ++ [v]).length c7).ownBlock = (Value.slice s1 C.length s3).ownBlock ∨ (Value.slice A7 (C ++ [v]).length c7).ownBlock = some (we.alloc (.cells #[.int .u8 (v.k : Int), .int .i64 v.n, txt v.t] 46)).heap.size := hor7
        have hU := OwnN.upd (s := (s1, C.length, s3)) (s' := (A7, (C ++ [v]).length, c7)) (b' := C ++ [v]) (by decide) ownE HAT.out sc rfl hown7 ((Below.refl _ we).alloc (Nat.le_refl _) _) hg8 hor8
        rw [show (stCols n cs i k).set i (C ++ [v]) = stCols n cs i (k + 1) by rw [← HCT.out, HST.out]] at hU
        obtain ⟨⟨x7, y7⟩, hU⟩ := hU
        simp only [sl3] at x7 hU
        have HU := Lib.hid hU
        have HLN := Lib.hid (show (C ++ [v]).length = C.length + 1 by simp)
        rw [HLN.out] at hown7 HU ⊢
        clear hU hg7 hor7 hg8 hor8 hown7
        replace hS := b7
        try simp only [Act.put, List.setIfInBounds_toArray, List.set_cons_zero, List.set_cons_succ]
        (refine mv_val 12 (v := ?_) rfl (by kernel_rfl) (by kernel_rfl) (by kernel_rfl) (fun _ _ _ h => h) (by rfl) hS ?_ ?_; rotate_left; (focus (intro w hSw; (try dsimp only at hSw); (have f1 := (F1 w hSw).1; have f2 := (F1 w hSw).2.1; have f3 := (F1 w hSw).2.2; have f4 := hir; have f5 := hirI; have f6 := hlt; have f7 := hiI); go_simp; first | done | with_reducible rfl)); simp only [Act.put, List.setIfInBounds_toArray, List.set_cons_zero, List.set_cons_succ])
        refine mv_step 13 rfl (by kernel_rfl) (by rfl) (fun K hK => ?_)
        go_simp
        refine hK _ _ ?_ ?_ <;> clear hK K
        · exact b7.setCell (p := ⟨g, i, none⟩) hgw _
        try simp only [Act.put, List.setIfInBounds_toArray, List.set_cons_zero, List.set_cons_succ]
        refine wpAnyH_done (by kernel_rfl) ?_ _
        go_wp2_with fail
        go_roundw
        case rel => exact ⟨k + 1, by omega, by go_num, HU.out, b7.setCell (p := ⟨g, i, none⟩) hgw _⟩
        case measure => simp [intOf]; omega
      · skip
        go_simp
        refine hK _ _ ?_ ?_ <;> clear hK K
        · exact (belE.alloc belE.size _)
        try simp only [Act.put, List.setIfInBounds_toArray, List.set_cons_zero, List.set_cons_succ]
        refine mv_step 5 rfl (by kernel_rfl) (by rfl) (fun K hK => ?_)
        go_simp
        refine hK _ _ ?_ ?_ <;> clear hK K
        · exact (belE.alloc belE.size _)
        try simp only [Act.put, List.setIfInBounds_toArray, List.set_cons_zero, List.set_cons_succ]
        refine mv_step 11 rfl (by kernel_rfl) (by rfl) (fun K hK => ?_)
        refine wp_app HEL _ _ rfl (by exact so.alloc _) rfl rfl (by exact cv_three v rfl) rfl (cv_one _) (by unfold maxLen; omega) (by have : (C.length + 1) * by_ ≤ 1000001 * 64 := Nat.mul_le_mul (by omega) hby; omega) (by show g ≤ (we.alloc _).heap.size; simp; omega) ?_; intro v7 w7 hown7 hg7 hor7; refine hK _ _ ?_ ?_ <;> clear hK K
        · exact (belE.alloc belE.size _).trans ((own_below (by exact so.alloc _) hg7 (by show g ≤ (we.alloc _).heap.size; simp; omega)).mono hgw)
        have b7 : Below w1.heap.size w1 w7 := (belE.alloc belE.size _).trans ((own_below (by exact so.alloc _) hg7 (by show g ≤ (we.alloc _).heap.size; simp; omega)).mono hgw)
        rw [← vcells_snoc, ← List.length_singleton (a := v), ← List.length_append] at hown7
        obtain ⟨A7, c7, rfl, _⟩ := own_form hown7
        have hg8 : (we.alloc (.cells #[.int .u8 (v.k : Int), .int .i64 v.n, txt v.t] 46)).grownBy w7 (Value.slice s1 C.length s3).ownBlock := hg7
        have hor8 : (Value.slice A7 (C ++ [v]).length c7).ownBlock = (Value.slice s1 C.length s3).ownBlock ∨ (Value.slice A7 (C ++ [v]).length c7).ownBlock = some (we.alloc (.cells #[.int .u8 (v.k : Int), .int .i64 v.n, txt v.t] 46)).heap.size := hor7
        have hU := OwnN.upd (s := (s1, C.length, s3)) (s' := (A7, (C ++ [v]).length, c7)) (b' := C ++ [v]) (by decide) ownE HAT.out sc rfl hown7 ((Below.refl _ we).alloc (Nat.le_refl _) _) hg8 hor8
        rw [show (stCols n cs i k).set i (C ++ [v]) = stCols n cs i (k + 1) by rw [← HCT.out, HST.out]] at hU
        obtain ⟨⟨x7, y7⟩, hU⟩ := hU
        simp only [sl3] at x7 hU
        have HU := Lib.hid hU
        have HLN := Lib.hid (show (C ++ [v]).length = C.length + 1 by simp)
        rw [HLN.out] at hown7 HU ⊢
        clear hU hg7 hor7 hg8 hor8 hown7
        replace hS := b7
        try simp only [Act.put, List.setIfInBounds_toArray, List.set_cons_zero, List.set_cons_succ]
        (refine mv_val 12 (v := ?_) rfl (by kernel_rfl) (by kernel_rfl) (by kernel_rfl) (fun _ _ _ h => h) (by rfl) hS ?_ ?_; rotate_left; (focus (intro w hSw; (try dsimp only at hSw); (have f1 := (F1 w hSw).1; have f2 := (F1 w hSw).2.1; have f3 := (F1 w hSw).2.2; have f4 := hir; have f5 := hirI; have f6 := hlt; have f7 := hiI); go_simp; first | done | with_reducible rfl)); simp only [Act.put, List.setIfInBounds_toArray, List.set_cons_zero, List.set_cons_succ])
        refine mv_step 13 rfl (by kernel_rfl) (by rfl) (fun K hK => ?_)
        go_simp
        refine hK _ _ ?_ ?_ <;> clear hK K
        · exact b7.setCell (p := ⟨g, i, none⟩) hgw _
        try simp only [Act.put, List.setIfInBounds_toArray, List.set_cons_zero, List.set_cons_succ]
        refine wpAnyH_done (by kernel_rfl) ?_ _
        go_wp2_with fail
        go_roundw
        case rel => exact ⟨k + 1, by omega, by go_num, HU.out, b7.setCell (p := ⟨g, i, none⟩) hgw _⟩
        case measure => simp [intOf]; omega
end Go.Proofs.Ythkpgjcnnfdibaa

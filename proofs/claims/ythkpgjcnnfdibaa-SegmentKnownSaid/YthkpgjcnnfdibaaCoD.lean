/- Joined texts: see the remark ahead of each part. No condition but those that the parts name. -/
import Derived.Test.YthkpgjcnnfdibaaCoC
/-! The walk of column.getTexts (layer 6). -/
namespace Go.Proofs.Ythkpgjcnnfdibaa
open Go.RowKit Go.Maps
set_option linter.unusedVariables false
set_option linter.unusedSimpArgs false

theorem Try.infoStr : (Try.prog.info? 9).map (fun i => (i.zero, i.size, i.bytes)) = some (some (.string ByteArray.empty), 1, 16) := by kernel_rfl
theorem El_str : El Try.prog 126 9 1 16 := el_of Try.underlying126 Try.infoStr rfl (by decide)

/-! ### plain: where getTexts ends -/
theorem tget_e1 {b : List UInt8} {n m k e : Nat} (h : vget b = (m, k, e)) (he : e ≠ 0) : tget b n = ([], e) := by unfold tget; rw [h]; simp [he]
theorem tget_many {b : List UInt8} {n m k : Nat} (h : vget b = (m, k, 0)) (hn : n < m) : tget b n = ([], 21) := by unfold tget; rw [h]; simp [hn]
theorem tget_words {b : List UInt8} {n m k e : Nat} (h : vget b = (m, k, 0)) (hn : ¬ n < m) (hw : rwords m [] (b.drop k) = ([], [], e)) (he : e ≠ 0) : tget b n = ([], e) := by
  unfold tget; rw [h]; simp only [hw]; simp [hn, he]
theorem tget_marks {b r : List UInt8} {ws : List (List UInt8)} {n m k e : Nat} (h : vget b = (m, k, 0)) (hn : ¬ n < m) (hw : rwords m [] (b.drop k) = (ws, r, 0)) (hm : rmarks ws n [] r = ([], [], e)) (he : e ≠ 0) : tget b n = ([], e) := by
  unfold tget; rw [h]; simp only [hw, hm]; simp [hn, he]
theorem tget_end {b r r' : List UInt8} {ws : List (List UInt8)} {n m k : Nat} {out : List V} (h : vget b = (m, k, 0)) (hn : ¬ n < m) (hw : rwords m [] (b.drop k) = (ws, r, 0)) (hm : rmarks ws n [] r = (out, r', 0)) : tget b n = if tput out = b then (out, 0) else ([], 21) := by
  unfold tget; rw [h]; simp only [hw, hm]; simp [hn]

theorem rwords_succ (j : Nat) (ws : List (List UInt8)) (r : List UInt8) : rwords (j + 1) ws r = if (vget r).2.2 ≠ 0 then ([], [], (vget r).2.2)
    else if r.length - (vget r).2.1 < (vget r).1 then ([], [], 20)
    else rwords j (ws ++ [(r.drop (vget r).2.1).take (vget r).1]) (r.drop ((vget r).2.1 + (vget r).1)) := rfl
theorem rmarks_succ (ws : List (List UInt8)) (j : Nat) (out : List V) (r : List UInt8) : rmarks ws (j + 1) out r = if (vget r).2.2 ≠ 0 then ([], [], (vget r).2.2)
    else if ws.length ≤ (vget r).1 then ([], [], 21)
    else rmarks ws j (out ++ [⟨3, 0, (ws[(vget r).1]?).getD []⟩]) (r.drop (vget r).2.1) := rfl

theorem flat_bound {ws : List (List UInt8)} {L : Nat} (h : ∀ t ∈ ws, t.length ≤ L) (hL : L < 18446744073709551616) : (ws.flatMap wbytes).length ≤ ws.length * (L + 10) := by
  induction ws with
  | nil => simp
  | cons t ws ih =>
    have h1 := ih (fun u hu => h u (List.mem_cons_of_mem _ hu))
    have h2 := h t List.mem_cons_self
    have h3 := vput_length64 (show t.length < 18446744073709551616 by omega)
    rw [List.flatMap_cons, List.length_append, List.length_cons, Nat.succ_mul]
    have : (wbytes t).length ≤ L + 10 := by unfold wbytes; rw [List.length_append]; omega
    omega

set_option maxHeartbeats 4000000 in
set_option maxRecDepth 100000 in
theorem getTexts_any (B : Nat) (A : Option Addr) (c : Nat) (b : List UInt8) (n : Nat) (w : World) (hr : Rd w B A (cells b)) (hc : b.length ≤ c) (hB : B ≤ w.heap.size) (hn : n ≤ 65536) (hbn : (n + 1) * (b.length + 10) ≤ 4000000000) :
    Calls Try.prog 89 #[.slice A b.length c, .int .i64 (n : Int)] w (RetVE w (tget b n)) := by
  have hbl : b.length ≤ 4000000000 := by
    have h1 : b.length ≤ (n + 1) * (b.length + 10) := Nat.le_trans (Nat.le_add_right _ 10) (Nat.le_mul_of_pos_left _ (Nat.succ_pos _))
    omega
  have hBN := Lib.hid hbn
  have G0 := Get_any B A c b w hr (by omega)
  obtain ⟨_, hv2, hv3⟩ := vget_val b
  have hm64 := (vget_val b).1
  obtain ⟨x, hx⟩ : ∃ x, vget b = x := ⟨_, rfl⟩
  rw [hx] at G0 hv2 hv3 hm64
  obtain ⟨m, k, er⟩ := x
  dsimp only at hv2 hv3 hm64
  have HG := Lib.hid G0
  have HX := Lib.hid hx
  have hwn : IntKind.u64.wrap (n : Int) = (n : Int) := by rw [IntKind.wrap_u64]; omega
  clear G0 hx hbn
  go_enter Try.func89, Try.ntmps89
  go_wp2_with fail
  refine HG.out.mono ?_; rintro e w1 ⟨rfl, rfl⟩
  by_cases her : er = 0
  case neg =>
    have HE := Lib.hid (tget_e1 (n := n) HX.out her)
    have heI : ((er : Int) != 0) = true := by simp; omega
    clear her
    go_wp2_with fail
    go_ret2
    exact retVE_err HE.out (Below.refl _ _)
  subst her
  by_cases hmn : n < m
  case pos =>
    have HE := Lib.hid (tget_many HX.out hmn)
    have hmI : (n : Int) < (m : Int) := by omega
    go_wp2_with fail
    go_ret2
    exact retVE_err HE.out (Below.refl _ _)
  have hmI : ¬ ((n : Int) < (m : Int)) := by omega
  obtain ⟨A1, c1, hs1, hr1, hc1⟩ := from_any c k (by omega) hc hr
  obtain ⟨b1, hb1⟩ : ∃ b1, b1 = b.drop k := ⟨_, rfl⟩
  have hb1l : b1.length ≤ b.length := by rw [hb1, List.length_drop]; omega
  rw [← hb1] at hs1 hr1 hc1
  have HB1 := Lib.hid hb1
  have hsl := fun w' => hs1 w' (k : Int) rfl
  clear hb1 hs1
  go_wp2_with fail
  go_loopw [9, 10, 37] (fun v9 v10 v37 wr => ∃ (i : Nat) (A2 : Option Addr) (c2 : Nat) (r : List UInt8) (ws : List (List UInt8)), i ≤ m ∧ v37 = .int .u64 i ∧ v9 = .slice A2 r.length c2 ∧ r.length ≤ c2 ∧ r.length ≤ b.length ∧ Rd w B A2 (cells r) ∧
      ws.length = i ∧ (∀ t ∈ ws, t.length ≤ b.length) ∧ rwords m [] b1 = rwords (m - i) ws r ∧ wr.ownsRow w.heap.size 9 1 v10 i (ws.map txt) ∧ Below w.heap.size w wr) (fun _ _ v37 _ => m - (intOf v37).toNat)
  case atStart => exact ⟨0, A1, c1, b1, [], by omega, rfl, rfl, hc1, hb1l, hr1, rfl, by simp, rfl, World.ownsRow_nil _ _ _ _, Below.refl _ _⟩
  case round =>
    obtain ⟨i, A2, c2, r, ws, him, rfl, rfl, hrc, hrb, hrr, hwl, hwt, hrw, hown, hbel⟩ := hrel
    have hbs := hbel.size
    clear hr1 hc1 hb1l hsl
    by_cases hlt : i < m
    case pos =>
      have hltI : (i : Int) < (m : Int) := by omega
      have hrd := hrr.below (hbel.mono hB)
      have G1 := Get_any B A2 c2 r wr hrd (by omega)
      obtain ⟨hs64, hk10, hkl⟩ := vget_val r
      have hstep : rwords m [] b1 = rwords (m - (i + 1) + 1) ws r := by rw [hrw, show m - (i + 1) + 1 = m - i by omega]
      rw [rwords_succ] at hstep
      obtain ⟨x, hx⟩ : ∃ x, vget r = x := ⟨_, rfl⟩
      rw [hx] at G1 hs64 hk10 hkl hstep
      obtain ⟨sz, kk, er⟩ := x
      dsimp only at hs64 hk10 hkl hstep
      have HG1 := Lib.hid G1
      have HX1 := Lib.hid hx
      have HST := Lib.hid hstep
      clear G1 hx hstep hrw
      go_wp2_with fail
      refine HG1.out.mono ?_; rintro e w1 ⟨rfl, rfl⟩
      by_cases her : er = 0
      case neg =>
        have hR : rwords m [] b1 = ([], [], er) := by rw [HST.out, if_pos her]
        have HE := Lib.hid (tget_words HX.out hmn (by rw [← HB1.out]; exact hR) her)
        have heI : ((er : Int) != 0) = true := by simp; omega
        clear her hR
        go_wp2_with fail
        go_ret2
        exact retVE_err HE.out hbel
      subst her
      have hw0 : IntKind.i64.wrap ((r.length : Int) - (kk : Int)) = ((r.length - kk : Nat) : Int) := by rw [IntKind.wrap_i64]; omega
      have hw1 : IntKind.u64.wrap ((r.length - kk : Nat) : Int) = ((r.length - kk : Nat) : Int) := by rw [IntKind.wrap_u64]; omega
      by_cases hsh : r.length - kk < sz
      case pos =>
        have hR : rwords m [] b1 = ([], [], 20) := by rw [HST.out, if_neg (by simp), if_pos hsh]
        have HE := Lib.hid (tget_words HX.out hmn (by rw [← HB1.out]; exact hR) (by decide))
        have hshI : ((r.length - kk : Nat) : Int) < (sz : Int) := by omega
        clear hR hsh
        go_wp2_with fail
        go_ret2
        exact retVE_err HE.out hbel
      have hshI : (sz : Int) ≤ ((r.length - kk : Nat) : Int) := by omega
      have hR : rwords m [] b1 = rwords (m - (i + 1)) (ws ++ [(r.drop kk).take sz]) (r.drop (kk + sz)) := by rw [HST.out, if_neg (by simp), if_neg hsh]
      obtain ⟨A3, c3, hs3, hr3, hc3⟩ := mid_any c2 kk (kk + sz) (by omega) (by omega) hrc hrr
      obtain ⟨A4, c4, hs4, hr4, hc4⟩ := from_any c2 (kk + sz) (by omega) hrc hrr
      rw [show kk + sz - kk = sz by omega] at hs3 hr3 hc3
      have htl0 : ((r.drop kk).take sz).length ≤ b.length := by rw [List.length_take, List.length_drop]; omega
      have hrl0 : (r.drop (kk + sz)).length ≤ b.length := by rw [List.length_drop]; omega
      obtain ⟨t, ht⟩ : ∃ t, t = (r.drop kk).take sz := ⟨_, rfl⟩
      obtain ⟨r', hr'⟩ : ∃ t, t = r.drop (kk + sz) := ⟨_, rfl⟩
      rw [← ht] at hs3 hr3 hc3 hR htl0
      rw [← hr'] at hs4 hr4 hc4 hR hrl0
      have hsl3 := fun w' => hs3 w' (kk : Int) ((kk : Int) + (sz : Int)) rfl (by omega)
      have hsl4 := fun w' => hs4 w' ((kk : Int) + (sz : Int)) (by omega)
      have hcv := conv_rd (hr3.below (hbel.mono hB)) c3
      have hw2 : IntKind.i64.wrap (sz : Int) = (sz : Int) := by rw [IntKind.wrap_i64]; omega
      have hw3 : IntKind.i64.wrap ((kk : Int) + (sz : Int)) = (kk : Int) + (sz : Int) := by rw [IntKind.wrap_i64]; omega
      have hmw : (ws ++ [t]).map txt = ws.map txt ++ [txt t] := by simp
      have HMW := Lib.hid hmw
      have HR := Lib.hid hR
      have hwl2 := Lib.hid hwl
      clear hs3 hs4 hsh hR ht hr' hrr hrd hmw hwl
      go_wp2_with (at_builtin; refine wpList_app El_str rfl _ _ rfl (hown.alloc _) rfl rfl (by exact rd_one _ _ _ _ _ rfl (Nat.lt_add_one _)) rfl (by intro u hu; simp at hu; subst hu; rfl) (by unfold maxLen; omega) (by omega) (by have := hbel.size; simp; omega) ?_; intro v4 w4 hown4 hg4 _)
      have hb4 : Below w.heap.size w w4 := (hbel.alloc hbel.size _).trans (own_below (hown.alloc _) hg4 (by have := hbel.size; simp; omega))
      go_roundw
      case rel => exact ⟨i + 1, A4, c4, r', ws ++ [t], by omega, by go_num, rfl, hc4, hrl0, hr4, by rw [List.length_append, hwl2.out]; rfl, (by intro u hu; rcases List.mem_append.1 hu with h | h; exact hwt u h; simp at h; rw [h]; exact htl0), HR.out, by rw [HMW.out]; exact hown4, hb4⟩
      case measure => simp [intOf]; omega
    have hii : i = m := by omega
    subst hii
    have hgeI : ¬ ((i : Int) < (i : Int)) := by omega
    rw [Nat.sub_self] at hrw
    have hRW : rwords i [] (b.drop k) = (ws, r, 0) := by rw [← HB1.out, hrw]; rfl
    have HRW := Lib.hid hRW
    clear hrw hRW
    go_wp2_with fail
    obtain ⟨A5, c5, rfl, hc5⟩ := own_form hown
    have hrW := rd_own hown
    have hbW := hbel
    obtain ⟨w2, hw2⟩ : ∃ w2, w2 = wr := ⟨_, rfl⟩
    subst hw2
    obtain ⟨by_, HEL, hby⟩ := El_val
    go_loopw [9, 14, 76] (fun v9 v14 v76 wr => ∃ (j : Nat) (A6 : Option Addr) (c6 : Nat) (r' : List UInt8) (out : List V), j ≤ n ∧ v76 = .int .i64 j ∧ v9 = .slice A6 r'.length c6 ∧ r'.length ≤ c6 ∧ r'.length ≤ b.length ∧ Rd w B A6 (cells r') ∧
        out.length = j ∧ (∀ v ∈ out, v.t ∈ ws) ∧ rmarks ws n [] r = rmarks ws (n - j) out r' ∧ wr.ownsRow w2.heap.size 46 3 v14 j (vcells out) ∧ Below w2.heap.size w2 wr) (fun _ _ v76 _ => n - (intOf v76).toNat)
    case atStart => exact ⟨0, A2, c2, r, [], by omega, rfl, rfl, hrc, hrb, hrr, rfl, by simp, rfl, World.ownsRow_nil _ _ _ _, Below.refl _ _⟩
    case round =>
      clear hrc hrb hrr hbel hbs
      obtain ⟨j, A6, c6, r', out, hjn, rfl, rfl, hrc, hrb, hrr, hol, hot, hrm, hown2, hbel⟩ := hrel
      have hbs := hbel.size
      have hb0 : Below w.heap.size w wr := hbW.trans (hbel.mono hbW.size)
      by_cases hlt : j < n
      case pos =>
        have hltI : (j : Int) < (n : Int) := by omega
        have hrd := hrr.below (hb0.mono hB)
        have G1 := Get_any B A6 c6 r' wr hrd (by omega)
        obtain ⟨hs64, hk10, hkl⟩ := vget_val r'
        have hstep : rmarks ws n [] r = rmarks ws (n - (j + 1) + 1) out r' := by rw [hrm, show n - (j + 1) + 1 = n - j by omega]
        rw [rmarks_succ] at hstep
        obtain ⟨x, hx⟩ : ∃ x, vget r' = x := ⟨_, rfl⟩
        rw [hx] at G1 hs64 hk10 hkl hstep
        obtain ⟨y, kk, er⟩ := x
        dsimp only at hs64 hk10 hkl hstep
        have HG1 := Lib.hid G1
        have HX1 := Lib.hid hx
        have HST := Lib.hid hstep
        clear G1 hx hstep hrm
        go_wp2_with fail
        refine HG1.out.mono ?_; rintro e w1 ⟨rfl, rfl⟩
        by_cases her : er = 0
        case neg =>
          have hR : rmarks ws n [] r = ([], [], er) := by rw [HST.out, if_pos her]
          have HE := Lib.hid (tget_marks HX.out hmn HRW.out hR her)
          have heI : ((er : Int) != 0) = true := by simp; omega
          clear her hR
          go_wp2_with fail
          go_ret2
          exact retVE_err HE.out hb0
        subst her
        by_cases hsh : ws.length ≤ y
        case pos =>
          have hR : rmarks ws n [] r = ([], [], 21) := by rw [HST.out, if_neg (by simp), if_pos hsh]
          have HE := Lib.hid (tget_marks HX.out hmn HRW.out hR (by decide))
          have hshI : (i : Int) ≤ (y : Int) := by omega
          clear hR hsh
          go_wp2_with fail
          go_ret2
          exact retVE_err HE.out hb0
        have hshI : (y : Int) < (i : Int) := by omega
        obtain ⟨t, ht⟩ : ∃ t, ws[y]? = some t := ⟨_, List.getElem?_eq_getElem (by omega)⟩
        have hR : rmarks ws n [] r = rmarks ws (n - (j + 1)) (out ++ [⟨3, 0, t⟩]) (r'.drop kk) := by rw [HST.out, if_neg (by simp), if_neg hsh, ht]; rfl
        obtain ⟨bb, oo, rfl, hbb, hcell⟩ := hrW.at (k := y) (by simp; omega)
        have hck := hcell y (txt t) (by rw [List.getElem?_map, ht]; rfl)
        have htw : t ∈ ws := List.mem_of_getElem? ht
        obtain ⟨A7, c7, hs7, hr7, hc7⟩ := from_any c6 kk hkl hrc hrr
        obtain ⟨r2, hr2⟩ : ∃ t, t = r'.drop kk := ⟨_, rfl⟩
        have hr2l : r2.length ≤ b.length := by rw [hr2, List.length_drop]; omega
        rw [← hr2] at hs7 hr7 hc7 hR
        have hsl7 := fun w' => hs7 w' (kk : Int) rfl
        have HR := Lib.hid hR
        have hnx : vcells (out ++ [⟨3, 0, t⟩]) = vcells out ++ cv ⟨3, 0, t⟩ := by rw [vcells_append]; simp [vcells]
        have HNX := Lib.hid hnx
        have HOL := Lib.hid hol
        clear hs7 hr2 hR ht hsh hnx hcell hrr hrd hol
        go_wp2_with fail
        refine ah_start 13 (fun w' => Below w2.heap.size w2 w') rfl (by kernel_rfl) hbel.drew ?_ ; intro hS
        (refine mv_val 0 (v := ?_) rfl (by kernel_rfl) (by kernel_rfl) (by kernel_rfl) (fun _ _ _ h => h) (by rfl) hS ?_ ?_; rotate_left; (focus (intro w hSw; (try dsimp only at hSw); (have f1 := cell_be hck hSw hbb; have f2 := hshI; have f3 := hsl7 w); go_simp; first | done | with_reducible rfl)); simp only [Act.put, List.setIfInBounds_toArray, List.set_cons_zero, List.set_cons_succ])
        (refine mv_val 1 (v := ?_) rfl (by kernel_rfl) (by kernel_rfl) (by kernel_rfl) (fun _ _ _ h => h) (by rfl) hS ?_ ?_; rotate_left; (focus (intro w hSw; (try dsimp only at hSw); (have f1 := cell_be hck hSw hbb; have f2 := hshI; have f3 := hsl7 w); go_simp; first | done | with_reducible rfl)); simp only [Act.put, List.setIfInBounds_toArray, List.set_cons_zero, List.set_cons_succ])
        (refine mv_val 2 (v := ?_) rfl (by kernel_rfl) (by kernel_rfl) (by kernel_rfl) (fun _ _ _ h => h) (by rfl) hS ?_ ?_; rotate_left; (focus (intro w hSw; (try dsimp only at hSw); (have f1 := cell_be hck hSw hbb; have f2 := hshI; have f3 := hsl7 w); go_simp; first | done | with_reducible rfl)); simp only [Act.put, List.setIfInBounds_toArray, List.set_cons_zero, List.set_cons_succ])
        (refine mv_val 3 (v := ?_) rfl (by kernel_rfl) (by kernel_rfl) (by kernel_rfl) (fun _ _ _ h => h) (by rfl) hS ?_ ?_; rotate_left; (focus (intro w hSw; (try dsimp only at hSw); (have f1 := cell_be hck hSw hbb; have f2 := hshI; have f3 := hsl7 w); go_simp; first | done | with_reducible rfl)); simp only [Act.put, List.setIfInBounds_toArray, List.set_cons_zero, List.set_cons_succ])
        (refine mv_val 4 (v := ?_) rfl (by kernel_rfl) (by kernel_rfl) (by kernel_rfl) (fun _ _ _ h => h) (by rfl) hS ?_ ?_; rotate_left; (focus (intro w hSw; (try dsimp only at hSw); (have f1 := cell_be hck hSw hbb; have f2 := hshI; have f3 := hsl7 w); go_simp; first | done | with_reducible rfl)); simp only [Act.put, List.setIfInBounds_toArray, List.set_cons_zero, List.set_cons_succ])
        (refine mv_val 5 (v := ?_) rfl (by kernel_rfl) (by kernel_rfl) (by kernel_rfl) (fun _ _ _ h => h) (by rfl) hS ?_ ?_; rotate_left; (focus (intro w hSw; (try dsimp only at hSw); (have f1 := cell_be hck hSw hbb; have f2 := hshI; have f3 := hsl7 w); go_simp; first | done | with_reducible rfl)); simp only [Act.put, List.setIfInBounds_toArray, List.set_cons_zero, List.set_cons_succ])
        (refine mv_val 8 (v := ?_) rfl (by kernel_rfl) (by kernel_rfl) (by kernel_rfl) (fun _ _ _ h => h) (by rfl) hS ?_ ?_; rotate_left; (focus (intro w hSw; (try dsimp only at hSw); (have f1 := cell_be hck hSw hbb; have f2 := hshI; have f3 := hsl7 w); go_simp; first | done | with_reducible rfl)); simp only [Act.put, List.setIfInBounds_toArray, List.set_cons_zero, List.set_cons_succ])
        (refine mv_val 9 (v := ?_) rfl (by kernel_rfl) (by kernel_rfl) (by kernel_rfl) (fun _ _ _ h => h) (by rfl) hS ?_ ?_; rotate_left; (focus (intro w hSw; (try dsimp only at hSw); (have f1 := cell_be hck hSw hbb; have f2 := hshI; have f3 := hsl7 w); go_simp; first | done | with_reducible rfl)); simp only [Act.put, List.setIfInBounds_toArray, List.set_cons_zero, List.set_cons_succ])
        (refine mv_val 10 (v := ?_) rfl (by kernel_rfl) (by kernel_rfl) (by kernel_rfl) (fun _ _ _ h => h) (by rfl) hS ?_ ?_; rotate_left; (focus (intro w hSw; (try dsimp only at hSw); (have f1 := cell_be hck hSw hbb; have f2 := hshI; have f3 := hsl7 w); go_simp; first | done | with_reducible rfl)); simp only [Act.put, List.setIfInBounds_toArray, List.set_cons_zero, List.set_cons_succ])
        refine mv_step 6 rfl (by kernel_rfl) (by rfl) (fun K hK => ?_)
        go_simp
        refine hK _ _ ?_ ?_ <;> clear hK K
        · exact (hbel.alloc hbs _).drew
        try simp only [Act.put, List.setIfInBounds_toArray, List.set_cons_zero, List.set_cons_succ]
        refine mv_step 7 rfl (by kernel_rfl) (by rfl) (fun K hK => ?_)
        refine wp_app HEL _ _ rfl (by exact hown2.alloc _) rfl rfl (by exact cv_three (⟨3, 0, t⟩ : V) rfl) rfl (cv_one _) (by unfold maxLen; omega) (by have : (j + 1) * by_ ≤ 65537 * 64 := Nat.mul_le_mul (by omega) hby; omega) (by show w2.heap.size ≤ (wr.alloc _).heap.size; simp; omega) ?_; intro v7 w7 hown7 hg7 _; refine hK _ _ ?_ ?_ <;> clear hK K
        · exact (hbel.alloc hbs _).drew.trans (own_below (by exact hown2.alloc _) hg7 (by show w2.heap.size ≤ (wr.alloc _).heap.size; simp; omega))
        have hb7 : Below w2.heap.size w2 w7 := (hbel.alloc hbs _).drew.trans (own_below (by exact hown2.alloc _) hg7 (by show w2.heap.size ≤ (wr.alloc _).heap.size; simp; omega))
        replace hS := hb7
        try simp only [Act.put, List.setIfInBounds_toArray, List.set_cons_zero, List.set_cons_succ]
        (refine mv_val 11 (v := ?_) rfl (by kernel_rfl) (by kernel_rfl) (by kernel_rfl) (fun _ _ _ h => h) (by rfl) hS ?_ ?_; rotate_left; (focus (intro w hSw; (try dsimp only at hSw); (have f1 := cell_be hck hSw hbb; have f2 := hshI; have f3 := hsl7 w); go_simp; first | done | with_reducible rfl)); simp only [Act.put, List.setIfInBounds_toArray, List.set_cons_zero, List.set_cons_succ])
        (refine mv_val 12 (v := ?_) rfl (by kernel_rfl) (by kernel_rfl) (by kernel_rfl) (fun _ _ _ h => h) (by rfl) hS ?_ ?_; rotate_left; (focus (intro w hSw; (try dsimp only at hSw); (have f1 := cell_be hck hSw hbb; have f2 := hshI; have f3 := hsl7 w); go_simp; first | done | with_reducible rfl)); simp only [Act.put, List.setIfInBounds_toArray, List.set_cons_zero, List.set_cons_succ])
        refine wpAnyH_done (by kernel_rfl) ?_ _
        go_wp2_with fail
        go_roundw
        case rel => exact ⟨j + 1, A7, c7, r2, out ++ [⟨3, 0, t⟩], by omega, by go_num, rfl, hc7, hr2l, hr7, by rw [List.length_append, HOL.out]; rfl, (by intro u hu; rcases List.mem_append.1 hu with h | h; exact hot u h; simp at h; rw [h]; exact htw), HR.out, by rw [HNX.out]; exact hown7, hb7⟩
        case measure => simp [intOf]; omega
      have hjn2 : j = n := by omega
      subst hjn2
      have hgeI2 : ¬ ((j : Int) < (j : Int)) := by omega
      rw [Nat.sub_self] at hrm
      have hRM : rmarks ws j [] r = (out, r', 0) := by rw [hrm]; rfl
      have HE := Lib.hid (tget_end HX.out hmn HRW.out hRM)
      have hwlen : (words out).length ≤ j := by have := wordsF_len out []; unfold words; simp at this; omega
      have hwin : ∀ t ∈ words out, t.length ≤ b.length := fun t ht => by
        rcases wordsF_of out [] t ht with h | ⟨v, hv, rfl⟩
        · simp at h
        · exact hwt _ (hot v hv)
      have hfb := flat_bound hwin (by omega)
      have hT : ((words out).flatMap wbytes).length ≤ 4000000000 := Nat.le_trans hfb (Nat.le_trans (Nat.mul_le_mul_right _ (by omega)) hBN.out)
      obtain ⟨A8, c8, rfl, hc8⟩ := own_form hown2
      have P0 := putTexts_any A8 c8 out wr (rd_own hown2) (by omega) (fun v hv => by have := hwt _ (hot v hv); omega) hT
      rw [hol] at P0
      have HP := Lib.hid P0
      have hown3 := own_lower hown2 hbW.size
      have hrb := (hr.below (hb0.mono hB))
      rw [← hol] at hown3
      have hvl : (Value.slice A8 j c8) = .slice A8 out.length c8 := by rw [hol]
      have HVL := Lib.hid hvl
      clear hrm hRM hT hfb hwin hwlen P0 hol hvl hown2
      go_wp2_with fail
      refine HP.out.mono ?_; rintro e w8 ⟨A9, c9, rfl, hown9, hb9⟩
      have hb10 : Below w.heap.size w w8 := hb0.trans (hb9.mono hb0.size)
      have E0 := Equal_any w8.heap.size A9 A c9 c (tput out) b w8 (rd_own hown9) ((hr.below (hb10.mono hB)).more (by have := hb10.size; omega))
      obtain ⟨q, hq⟩ : ∃ q, q = decide (tput out = b) := ⟨_, rfl⟩
      rw [← hq] at E0
      have HEQ := Lib.hid E0
      have HQ := Lib.hid hq
      have hown10 := own_bel hown3 hb9
      clear E0 hq hown3 hown9
      go_wp2_with fail
      refine HEQ.out.mono ?_; rintro e w9 ⟨rfl, rfl⟩
      cases q
      · have hE2 : tget b j = ([], 21) := by rw [HE.out, if_neg (by simpa using HQ.out)]
        have HE2 := Lib.hid hE2
        clear hE2
        go_wp2_with fail
        go_ret2
        exact retVE_err HE2.out hb10
      · have hE2 : tget b j = (out, 0) := by rw [HE.out, if_pos (by simpa using HQ.out)]
        have HE2 := Lib.hid hE2
        clear hE2
        rw [← HVL.out] at hown10
        go_wp2_with fail
        go_ret2
        exact retVE_ok HE2.out hown10 hb10
end Go.Proofs.Ythkpgjcnnfdibaa

/-! The table column.ways, and what it tells of a kind (layer 6). -/
namespace Go.Proofs.Ythkpgjcnnfdibaa
open Go.RowKit Go.Maps
set_option linter.unusedVariables false
set_option linter.unusedSimpArgs false

abbrev ctab : DataW Unit := .map [(tk 1, wd 84 85), (tk 2, wd 86 87), (tk 3, wd 88 89)]
theorem zeroCWay (w : World) : (zeroValue 84).run Try.prog w = .ok (.agg #[.nilFunc, .nilFunc]) w := by kernel_rfl

set_option maxRecDepth 100000 in
theorem cways_any (w : World) : Calls Try.prog 47 #[] w fun e w' => e = .returned (.map (some w.heap.size)) ∧ w'.ownsMap Try.prog 5 wayE w.heap.size 3 ctab ∧ Below w.heap.size w w' := by
  have hmm := @run_makeMap Try.prog
  go_enter Try.func47, Try.ntmps47
  have hown0 := World.ownsMap_made w Try.prog 5 wayE
  go_wp2_with (first
    | (refine wpList_insert_own _ rfl _ _ _ 86 rfl 5 84 law8 Try.underlying86 wayE w.heap.size 2 _ rfl hown2 (by unfold maxLen; omega) _ _ (tk 3) rfl rfl (key8 3) (wd 88 89) [] rfl ?_; intro w3 hown3 hg3)
    | (refine wpList_insert_own _ rfl _ _ _ 86 rfl 5 84 law8 Try.underlying86 wayE w.heap.size 1 _ rfl hown1 (by unfold maxLen; omega) _ _ (tk 2) rfl rfl (key8 2) (wd 86 87) [] rfl ?_; intro w2 hown2 hg2)
    | (refine wpList_insert_own _ rfl _ _ _ 86 rfl 5 84 law8 Try.underlying86 wayE w.heap.size 0 _ rfl hown0 (by unfold maxLen; omega) _ _ (tk 1) rfl rfl (key8 1) (wd 84 85) [] rfl ?_; intro w1 hown1 hg1))
  go_ret
  have hb : Below w.heap.size w w3 := ((((Below.refl _ w).alloc (Nat.le_refl _) _).grown hg1 (by simp) (fun k hk => by simp at hk; omega)).grown hg2 (by have := hg1.size; simp at this; omega) (fun k hk => by simp at hk; omega)).grown hg3 (by have := hg1.size; have := hg2.size; simp at *; omega) (fun k hk => by simp at hk; omega)
  exact ⟨rfl, hown3, hb⟩

/-- the two functions of a kind -/
def cputF (t : Nat) : Value := if t = 1 then .func (.func 84) #[] #[] else if t = 2 then .func (.func 86) #[] #[] else if t = 3 then .func (.func 88) #[] #[] else .nilFunc
def cgetF (t : Nat) : Value := if t = 1 then .func (.func 85) #[] #[] else if t = 2 then .func (.func 87) #[] #[] else if t = 3 then .func (.func 89) #[] #[] else .nilFunc

theorem wayE_nil {v : Value} {ps : List MemPlace} (h : wayE v = some (zway, ps)) : v = .agg #[.nilFunc, .nilFunc] := by
  unfold wayE at h
  split at h
  · rename_i a b
    split at h
    · rename_i x y hx hy
      simp only [Option.some.injEq, Prod.mk.injEq, DataW.agg.injEq, List.cons.injEq, and_true] at h
      obtain ⟨⟨rfl, rfl⟩, _⟩ := h
      have nil : ∀ {v : Value}, fnD v = some (.lit (.int .i64 (-1))) → v = .nilFunc := fun {v} h => by
        unfold fnD at h
        split at h
        · split at h
          · simp at h
          · cases h
        · rfl
        · cases h
      rw [nil hx, nil hy]
    · cases h
  · cases h

theorem same_tk (a b : Int) : (tk a).sameKey (tk b) = decide (a = b) := by simp [Lit.sameKey]
theorem ctab_has (t : UInt8) : Maps.has ctab (tk (t.toNat : Int)) = tyok t := by
  unfold Maps.has tyok
  simp only [List.any_cons, List.any_nil, Bool.or_false, same_tk]
  by_cases h1 : t.toNat = 1
  · simp [h1]
  by_cases h2 : t.toNat = 2
  · simp [h2]
  by_cases h3 : t.toNat = 3
  · simp [h3]
  simp only [h1, h2, h3, decide_false, Bool.or_false]
  rw [decide_eq_false (by omega), decide_eq_false (by omega), decide_eq_false (by omega)]; rfl
theorem ctab_at (t : UInt8) : ctab.atKey (tk (t.toNat : Int)) zway = if t.toNat = 1 then wd 84 85 else if t.toNat = 2 then wd 86 87 else if t.toNat = 3 then wd 88 89 else zway := by
  by_cases h1 : t.toNat = 1
  · rw [h1]; rfl
  by_cases h2 : t.toNat = 2
  · rw [h2]; rfl
  by_cases h3 : t.toNat = 3
  · rw [h3]; rfl
  rw [if_neg h1, if_neg h2, if_neg h3]
  have e1 : decide ((1 : Int) = (t.toNat : Int)) = false := decide_eq_false (by omega)
  have e2 : decide ((2 : Int) = (t.toNat : Int)) = false := decide_eq_false (by omega)
  have e3 : decide ((3 : Int) = (t.toNat : Int)) = false := decide_eq_false (by omega)
  simp only [DataW.atKey, List.find?_cons, List.find?_nil, same_tk, e1, e2, e3]

theorem clook {w : World} {b : Nat} (h : w.ownsMap Try.prog 5 wayE b 3 ctab) (t : UInt8) :
    (Instr.lookup 86 (.map (some b)) (b8 t) true).run Try.prog w = .ok (.tuple #[.agg #[cputF t.toNat, cgetF t.toNat], .bool (tyok t)]) w := by
  obtain ⟨v, ps, hrun, hv⟩ := h.look_ok law8 Try.underlying86 (zeroCWay w) (show wayE _ = some (zway, []) from rfl) (key8 t)
  rw [ctab_at] at hv
  rw [ctab_has] at hrun
  rw [hrun]
  have e : v = .agg #[cputF t.toNat, cgetF t.toNat] := by
    unfold cputF cgetF
    split at hv
    · rename_i h; simp only [h, if_pos]; exact wayE_inv hv
    split at hv
    · rename_i h0 h; simp only [h, if_pos]; exact wayE_inv hv
    split at hv
    · rename_i h0 h1 h; simp only [h, if_pos]; exact wayE_inv hv
    · rename_i h0 h1 h2; simp only [if_neg h0, if_neg h1, if_neg h2]; exact wayE_nil hv
  rw [e]
end Go.Proofs.Ythkpgjcnnfdibaa

/-! A kind's put and get through the table of functions (layer 6). -/
namespace Go.Proofs.Ythkpgjcnnfdibaa
open Go.RowKit Go.Maps
set_option linter.unusedVariables false
set_option linter.unusedSimpArgs false

theorem tyok_cases {t : UInt8} (h : tyok t = true) : t.toNat = 1 ∨ t.toNat = 2 ∨ t.toNat = 3 := by
  unfold tyok at h; simp at h; omega

theorem put_way {t : UInt8} (ht : tyok t = true) (l : List V) (hl : l.length ≤ 65536) (hx : ∀ v ∈ l, v.t.length ≤ 4294967296) (hT : ((words l).flatMap wbytes).length ≤ 4000000000) :
    ∃ f, cputF t.toNat = .func (.func f) #[] #[] ∧ (∀ args w, (callFunc f args).run Try.prog w = .ok (.enter f args) w) ∧
      ∀ A c w, Rd w w.heap.size A (vcells l) → Calls Try.prog f #[.slice A l.length c] w (RetB w (cbody t l)) := by
  rcases tyok_cases ht with h | h | h
  · refine ⟨84, by unfold cputF; rw [if_pos h], fun _ _ => by kernel_rfl, fun A c w hr => ?_⟩
    unfold cbody; rw [if_pos h]
    exact putTruths_any A c l w hr hl
  · refine ⟨86, by unfold cputF; rw [if_neg (by omega), if_pos h], fun _ _ => by kernel_rfl, fun A c w hr => ?_⟩
    unfold cbody; rw [if_neg (by omega), if_pos h]
    exact putNumbers_any A c l w hr hl
  · refine ⟨88, by unfold cputF; rw [if_neg (by omega), if_neg (by omega), if_pos h], fun _ _ => by kernel_rfl, fun A c w hr => ?_⟩
    unfold cbody; rw [if_neg (by omega), if_neg (by omega)]
    exact putTexts_any A c l w hr hl hx hT

theorem get_way {t : UInt8} (ht : tyok t = true) :
    ∃ f, cgetF t.toNat = .func (.func f) #[] #[] ∧ (∀ args w, (callFunc f args).run Try.prog w = .ok (.enter f args) w) ∧
      ∀ (B : Nat) A c (b : List UInt8) (n : Nat) w, Rd w B A (cells b) → b.length ≤ c → B ≤ w.heap.size → n ≤ 65536 → (n + 1) * (b.length + 10) ≤ 4000000000 → Calls Try.prog f #[.slice A b.length c, .int .i64 (n : Int)] w (RetVE w (cread t b n)) := by
  have hbl : ∀ (b : List UInt8) (n : Nat), (n + 1) * (b.length + 10) ≤ 4000000000 → b.length ≤ 4294967296 := fun b n h => by
    have h1 : b.length ≤ (n + 1) * (b.length + 10) := Nat.le_trans (Nat.le_add_right _ 10) (Nat.le_mul_of_pos_left _ (Nat.succ_pos _))
    omega
  rcases tyok_cases ht with h | h | h
  · obtain rfl : t = 1 := UInt8.toNat_inj.1 h
    exact ⟨85, rfl, fun _ _ => by kernel_rfl, fun B A c b n w hr hc hB hn hbn => getTruths_any B A c b n w hr hc hB hn (hbl b n hbn)⟩
  · obtain rfl : t = 2 := UInt8.toNat_inj.1 h
    exact ⟨87, rfl, fun _ _ => by kernel_rfl, fun B A c b n w hr hc hB hn hbn => getNumbers_any B A c b n w hr hc hB hn (hbl b n hbn)⟩
  · obtain rfl : t = 3 := UInt8.toNat_inj.1 h
    exact ⟨89, rfl, fun _ _ => by kernel_rfl, fun B A c b n w hr hc hB hn hbn => getTexts_any B A c b n w hr hc hB hn hbn⟩
end Go.Proofs.Ythkpgjcnnfdibaa

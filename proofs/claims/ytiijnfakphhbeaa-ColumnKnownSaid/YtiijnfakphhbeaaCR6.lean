/- The walk of the reference's read (layer 6). No condition but sizes. -/
import Derived.Test.YtiijnfakphhbeaaCR5
import Derived.Test.YtiijnfakphhbeaaColP5
namespace Go.Proofs.Ytiijnfakphhbeaa
open Go.RowKit Go.Maps
set_option linter.unusedVariables false
set_option linter.unusedSimpArgs false

set_option maxHeartbeats 8000000 in
set_option maxRecDepth 100000 in
theorem rread_any (B : Nat) (A : Option Addr) (c : Nat) (b : List UInt8) (n : Nat) (w : World) (hr : Rd w B A (cells b)) (hc : b.length ≤ c) (hB : B ≤ w.heap.size) (hn : n ≤ 65536) (hbl : b.length ≤ 4000000000) :
    Calls Try.prog 56 #[.slice A b.length c, .int .i64 (n : Int)] w (RetVE w (tget b n)) := by
  obtain ⟨L, hL⟩ : ∃ L, L = b.length := ⟨_, rfl⟩
  have HL := Lib.hid hL
  have G0 := rGet_any B A c b w hr (by omega)
  obtain ⟨_, hv2, hv3⟩ := vget_val b
  have hm64 := (vget_val b).1
  obtain ⟨x, hx⟩ : ∃ x, vget b = x := ⟨_, rfl⟩
  rw [hx] at G0 hv2 hv3 hm64
  obtain ⟨m, k, er⟩ := x
  dsimp only at hv2 hv3 hm64
  have HFR : ∀ (w' : World) (u : Nat), Below w.heap.size w w' → u ≤ L → ∃ A' c', (∀ w'' (z : Int), z = u → (Instr.sliceAt 24 (.slice A L c) (some (.int .i64 z)) none none).run Try.prog w'' = .ok (.slice A' (b.drop u).length c') w'') ∧ Rd w' B A' (cells (b.drop u)) ∧ (b.drop u).length ≤ c' := fun w' u h hu => by
    rw [hL]; exact from_any c u (by omega) hc (hr.below (h.mono hB))
  have HMD : ∀ (w' : World) (u v : Nat), Below w.heap.size w w' → u ≤ v → v ≤ L → ∃ A' c', (∀ w'' (y z : Int), y = u → z = v → (Instr.sliceAt 24 (.slice A L c) (some (.int .i64 y)) (some (.int .i64 z)) none).run Try.prog w'' = .ok (.slice A' ((b.drop u).take (v - u)).length c') w'') ∧ Rd w' B A' (cells ((b.drop u).take (v - u))) ∧ ((b.drop u).take (v - u)).length ≤ c' := fun w' u v h hu hv => by
    rw [hL]; exact mid_any c u v hu (by omega) hc (hr.below (h.mono hB))
  have HF := Lib.hid HFR
  have HD := Lib.hid HMD
  rw [← hL] at G0 hv3 hbl ⊢
  have HG := Lib.hid G0
  have HX := Lib.hid hx
  have hwn : IntKind.u64.wrap (n : Int) = (n : Int) := by rw [IntKind.wrap_u64]; omega
  clear G0 hx HFR HMD hL hr hc
  go_enter Try.func56, Try.ntmps56
  go_wp2_with fail
  refine HG.out.mono ?_; rintro e w1 ⟨rfl, rfl⟩
  by_cases her : er = 0
  case neg =>
    have HE := Lib.hid (tget_e1 (n := n) HX.out her)
    have heI : ((er : Int) != 0) = true := by simp; omega
    clear her
    go_wp2_with fail
    go_ret2
    exact retVE_err HE.out (Below.refl _ _)
  subst her
  by_cases hmn : n < m
  case pos =>
    have HE := Lib.hid (tget_many HX.out hmn)
    have hmI : (n : Int) < (m : Int) := by omega
    go_wp2_with fail
    go_ret2
    exact retVE_err HE.out (Below.refl _ _)
  have hmI : ¬ ((n : Int) < (m : Int)) := by omega
  go_wp2_with fail
  go_loopw [7, 9, 10] (fun v7 v9 v10 wr => ∃ (i at_ : Nat) (ws : List (List UInt8)), i ≤ m ∧ v10 = .int .u64 i ∧ v7 = .int .i64 at_ ∧ at_ ≤ L ∧
      ws.length = i ∧ (∀ t ∈ ws, t.length ≤ L) ∧ rwords m [] (b.drop k) = rwords (m - i) ws (b.drop at_) ∧ wr.ownsRow w.heap.size 9 1 v9 i (strs ws) ∧ Below w.heap.size w wr) (fun _ _ v10 _ => m - (intOf v10).toNat)
  case atStart => exact ⟨0, k, [], by omega, rfl, rfl, hv3, rfl, by simp, rfl, World.ownsRow_nil _ _ _ _, Below.refl _ _⟩
  case round =>
    obtain ⟨i, at_, ws, him, rfl, rfl, hat, hwl, hwt, hrw, hown, hbel⟩ := hrel
    have hbs := hbel.size
    by_cases hlt : i < m
    case pos =>
      have hltI : (i : Int) < (m : Int) := by omega
      obtain ⟨A1, c1, hs1, hr1, hc1⟩ := HF.out wr at_ hbel hat
      obtain ⟨r, hrr⟩ : ∃ r, r = b.drop at_ := ⟨_, rfl⟩
      have hrl : r.length = L - at_ := by rw [hrr, List.length_drop, HL.out]
      rw [← hrr] at hs1 hr1 hc1 hrw
      have hsl := fun w' => hs1 w' (at_ : Int) rfl
      have G1 := rGet_any B A1 c1 r wr hr1 (by omega)
      obtain ⟨hs64, hk10, hkl⟩ := vget_val r
      have hstep : rwords m [] (b.drop k) = rwords (m - (i + 1) + 1) ws r := by rw [hrw, show m - (i + 1) + 1 = m - i by omega]
      rw [rwords_succ] at hstep
      obtain ⟨x, hx⟩ : ∃ x, vget r = x := ⟨_, rfl⟩
      rw [hx] at G1 hs64 hk10 hkl hstep
      obtain ⟨sz, kk, er⟩ := x
      dsimp only at hs64 hk10 hkl hstep
      rw [hrl] at hsl G1 hkl hstep
      have HG1 := Lib.hid G1
      have HX1 := Lib.hid hx
      have HST := Lib.hid hstep
      have HRR := Lib.hid hrr
      clear G1 hx hstep hrw hs1 hr1 hc1 hrl hrr
      go_wp2_with fail
      refine HG1.out.mono ?_; rintro e w1 ⟨rfl, rfl⟩
      by_cases her : er = 0
      case neg =>
        have hR : rwords m [] (b.drop k) = ([], [], er) := by rw [HST.out, if_pos her]
        have HE := Lib.hid (tget_words HX.out hmn hR her)
        have heI : ((er : Int) != 0) = true := by simp; omega
        clear her hR
        go_wp2_with fail
        go_ret2
        exact retVE_err HE.out hbel
      subst her
      have hw0 : IntKind.i64.wrap ((L : Int) - (at_ : Int)) = ((L - at_ : Nat) : Int) := by rw [IntKind.wrap_i64]; omega
      have hw00 : IntKind.i64.wrap (((L - at_ : Nat) : Int) - (kk : Int)) = ((L - at_ - kk : Nat) : Int) := by rw [IntKind.wrap_i64]; omega
      have hw01 : IntKind.i64.wrap ((L : Int) - (at_ : Int) - (kk : Int)) = ((L - at_ - kk : Nat) : Int) := by rw [IntKind.wrap_i64]; omega
      have hw1 : IntKind.u64.wrap ((L : Int) - (at_ : Int) - (kk : Int)) = ((L - at_ - kk : Nat) : Int) := by rw [IntKind.wrap_u64]; omega
      have hw11 : IntKind.u64.wrap ((L - at_ - kk : Nat) : Int) = ((L - at_ - kk : Nat) : Int) := by rw [IntKind.wrap_u64]; omega
      by_cases hsh : L - at_ - kk < sz
      case pos =>
        have hR : rwords m [] (b.drop k) = ([], [], 20) := by rw [HST.out, if_neg (by simp), if_pos hsh]
        have HE := Lib.hid (tget_words HX.out hmn hR (by decide))
        have hshI : ((L - at_ - kk : Nat) : Int) < (sz : Int) := by omega
        have hshI2 : (L : Int) - (at_ : Int) - (kk : Int) < (sz : Int) := by omega
        clear hR hsh
        go_wp2_with fail
        go_ret2
        exact retVE_err HE.out hbel
      have hshI : (sz : Int) ≤ ((L - at_ - kk : Nat) : Int) := by omega
      have hshI2 : (sz : Int) ≤ (L : Int) - (at_ : Int) - (kk : Int) := by omega
      have hR : rwords m [] (b.drop k) = rwords (m - (i + 1)) (ws ++ [(r.drop kk).take sz]) (r.drop (kk + sz)) := by rw [HST.out, if_neg (by simp), if_neg hsh]
      rw [HRR.out, List.drop_drop, List.drop_drop] at hR
      obtain ⟨A3, c3, hs3, hr3, hc3⟩ := HD.out wr (at_ + kk) (at_ + kk + sz) hbel (by omega) (by omega)
      rw [show at_ + kk + sz - (at_ + kk) = sz by omega] at hs3 hr3 hc3
      have htl0 : ((b.drop (at_ + kk)).take sz).length ≤ L := by rw [List.length_take, List.length_drop, ← HL.out]; omega
      obtain ⟨t, ht⟩ : ∃ t, t = (b.drop (at_ + kk)).take sz := ⟨_, rfl⟩
      rw [← ht] at hs3 hr3 hc3 hR htl0
      have hsl3 := fun w' => hs3 w' ((at_ : Int) + (kk : Int)) ((at_ : Int) + (kk : Int) + (sz : Int)) (by omega) (by omega)
      have hcv := conv_rd hr3 c3
      have hw2 : IntKind.i64.wrap (sz : Int) = (sz : Int) := by rw [IntKind.wrap_i64]; omega
      have hmw : strs (ws ++ [t]) = strs ws ++ [txt t] := by simp [strs]
      have HMW := Lib.hid hmw
      have HR := Lib.hid hR
      have hwl2 := Lib.hid hwl
      clear hs3 hsh hR ht hmw hwl hsl
      go_wp2_with (at_builtin; refine wpList_app El_str rfl _ _ rfl (hown.alloc _) rfl rfl (by exact rd_one _ _ _ _ _ rfl (Nat.lt_add_one _)) rfl (by intro u hu; simp at hu; subst hu; rfl) (by unfold maxLen; omega) (by omega) (by have := hbel.size; simp; omega) ?_; intro v4 w4 hown4 hg4 _)
      have hb4 : Below w.heap.size w w4 := (hbel.alloc hbel.size _).trans (own_below (hown.alloc _) hg4 (by have := hbel.size; simp; omega))
      go_roundw
      case rel => exact ⟨i + 1, at_ + kk + sz, ws ++ [t], by omega, by go_num, by go_num, by omega, by rw [List.length_append, hwl2.out]; rfl, (by intro u hu; rcases List.mem_append.1 hu with h | h; exact hwt u h; simp at h; rw [h]; exact htl0), by rw [HR.out, Nat.add_assoc], by rw [HMW.out]; exact hown4, hb4⟩
      case measure => simp [intOf]; omega
    have hii : i = m := by omega
    subst hii
    have hgeI : ¬ ((i : Int) < (i : Int)) := by omega
    rw [Nat.sub_self] at hrw
    have hRW : rwords i [] (b.drop k) = (ws, b.drop at_, 0) := by rw [hrw]; rfl
    have HRW := Lib.hid hRW
    clear hrw hRW
    go_wp2_with fail
    obtain ⟨A5, c5, rfl, hc5⟩ := own_form hown
    have hrW := rd_own hown
    have hbW := hbel
    obtain ⟨w2, hw2⟩ : ∃ w2, w2 = wr := ⟨_, rfl⟩
    subst hw2
    obtain ⟨by_, HEL, hby⟩ := El_val
    go_loopw [7, 14, 15] (fun v7 v14 v15 wr => ∃ (j at2 : Nat) (out : List V), j ≤ n ∧ v15 = .int .i64 j ∧ v7 = .int .i64 at2 ∧ at2 ≤ L ∧
        out.length = j ∧ (∀ v ∈ out, v.t ∈ ws ∧ v.k = 3) ∧ rmarks ws n [] (b.drop at_) = rmarks ws (n - j) out (b.drop at2) ∧ wr.ownsRow w2.heap.size 38 3 v14 j (vcells out) ∧ Below w2.heap.size w2 wr) (fun _ _ v15 _ => n - (intOf v15).toNat)
    case atStart => exact ⟨0, at_, [], by omega, rfl, rfl, hat, rfl, by simp, rfl, World.ownsRow_nil _ _ _ _, Below.refl _ _⟩
    case round =>
      clear hbel hbs
      obtain ⟨j, at2, out, hjn, rfl, rfl, hat2, hol, hot, hrm, hown2, hbel⟩ := hrel
      have hbs := hbel.size
      have hb0 : Below w.heap.size w wr := hbW.trans (hbel.mono hbW.size)
      by_cases hlt : j < n
      case pos =>
        have hltI : (j : Int) < (n : Int) := by omega
        obtain ⟨A1, c1, hs1, hr1, hc1⟩ := HF.out wr at2 hb0 hat2
        obtain ⟨r, hrr⟩ : ∃ r, r = b.drop at2 := ⟨_, rfl⟩
        have hrl : r.length = L - at2 := by rw [hrr, List.length_drop, HL.out]
        rw [← hrr] at hs1 hr1 hc1 hrm
        have hsl := fun w' => hs1 w' (at2 : Int) rfl
        have G1 := rGet_any B A1 c1 r wr hr1 (by omega)
        obtain ⟨hs64, hk10, hkl⟩ := vget_val r
        have hstep : rmarks ws n [] (b.drop at_) = rmarks ws (n - (j + 1) + 1) out r := by rw [hrm, show n - (j + 1) + 1 = n - j by omega]
        rw [rmarks_succ] at hstep
        obtain ⟨x, hx⟩ : ∃ x, vget r = x := ⟨_, rfl⟩
        rw [hx] at G1 hs64 hk10 hkl hstep
        obtain ⟨y, kk, er⟩ := x
        dsimp only at hs64 hk10 hkl hstep
        rw [hrl] at hsl G1 hkl
        have HG1 := Lib.hid G1
        have HX1 := Lib.hid hx
        have HST := Lib.hid hstep
        have HRR := Lib.hid hrr
        clear G1 hx hstep hrm hs1 hr1 hc1 hrl hrr
        go_wp2_with fail
        refine HG1.out.mono ?_; rintro e w1 ⟨rfl, rfl⟩
        by_cases her : er = 0
        case neg =>
          have hR : rmarks ws n [] (b.drop at_) = ([], [], er) := by rw [HST.out, if_pos her]
          have HE := Lib.hid (tget_marks HX.out hmn HRW.out hR her)
          have heI : ((er : Int) != 0) = true := by simp; omega
          clear her hR
          go_wp2_with fail
          go_ret2
          exact retVE_err HE.out hb0
        subst her
        by_cases hsh : ws.length ≤ y
        case pos =>
          have hR : rmarks ws n [] (b.drop at_) = ([], [], 21) := by rw [HST.out, if_neg (by simp), if_pos hsh]
          have HE := Lib.hid (tget_marks HX.out hmn HRW.out hR (by decide))
          have hshI : (i : Int) ≤ (y : Int) := by omega
          clear hR hsh
          go_wp2_with fail
          go_ret2
          exact retVE_err HE.out hb0
        have hshI : (y : Int) < (i : Int) := by omega
        have hyi : y < i := by omega
        obtain ⟨t, ht⟩ : ∃ t, ws[y]? = some t := ⟨_, List.getElem?_eq_getElem (by omega)⟩
        have hR : rmarks ws n [] (b.drop at_) = rmarks ws (n - (j + 1)) (out ++ [⟨3, 0, t⟩]) (r.drop kk) := by rw [HST.out, if_neg (by simp), if_neg hsh, ht]; rfl
        rw [HRR.out, List.drop_drop] at hR
        obtain ⟨bb, oo, rfl, hbb, hcell⟩ := hrW.at (k := y) (by simp; omega)
        have hck0 := hcell y (txt t) (by rw [List.getElem?_map, ht]; rfl)
        have hck := (hbel.cell (p := ⟨bb, oo + y, none⟩) hbb).trans hck0
        have htw : t ∈ ws := List.mem_of_getElem? ht
        have HR := Lib.hid hR
        have hnx : vcells (out ++ [⟨3, 0, t⟩]) = vcells out ++ cv ⟨3, 0, t⟩ := by rw [vcells_append]; simp [vcells]
        have HNX := Lib.hid hnx
        have HOL := Lib.hid hol
        clear hR ht hsh hnx hcell hck0 hol hsl
        go_wp2_with (at_builtin; refine wpList_app HEL rfl _ _ rfl (hown2.alloc _) rfl rfl (by exact cv_three (⟨3, 0, t⟩ : V) rfl) rfl (cv_one _) (by unfold maxLen; omega) (by have : (j + 1) * by_ ≤ 65537 * 64 := Nat.mul_le_mul (by omega) hby; omega) (by simp; omega) ?_; intro v7 w7 hown7 hg7 _)
        have hb7 : Below w2.heap.size w2 w7 := (hbel.alloc hbs _).trans (own_below (hown2.alloc _) hg7 (by simp; omega))
        go_roundw
        case rel => exact ⟨j + 1, at2 + kk, out ++ [⟨3, 0, t⟩], by omega, by go_num, by go_num, by omega, by rw [List.length_append, HOL.out]; rfl, (by intro u hu; rcases List.mem_append.1 hu with h | h; exact hot u h; simp at h; rw [h]; exact ⟨htw, rfl⟩), HR.out, by rw [HNX.out]; exact hown7, hb7⟩
        case measure => simp [intOf]; omega
      have hjn2 : j = n := by omega
      subst hjn2
      have hgeI2 : ¬ ((j : Int) < (j : Int)) := by omega
      rw [Nat.sub_self] at hrm
      have hRM : rmarks ws j [] (b.drop at_) = (out, b.drop at2, 0) := by rw [hrm]; rfl
      have HE := Lib.hid (tget_end HX.out hmn HRW.out hRM)
      have hiff := tput_iff (by omega) (by rw [← HL.out]; omega) HX.out HRW.out hRM
      have hIFF := Lib.hid hiff
      obtain ⟨A8, c8, rfl, hc8⟩ := own_form hown2
      have W0 := rWords_any wr.heap.size A8 c8 out wr (rd_own hown2) (Nat.le_refl _) (by omega) (fun v hv => (hot v hv).2)
      rw [hol] at W0
      have HW := Lib.hid W0
      have hown3 := own_lower hown2 hbW.size
      rw [← hol] at hown3
      have hvl : (Value.slice A8 j c8) = .slice A8 out.length c8 := by rw [hol]
      have HVL := Lib.hid hvl
      have hrW2 := hrW.below hbel
      clear hrm hRM hiff W0 hol hvl hown2
      go_wp2_with fail
      refine HW.out.mono ?_; rintro e w8 ⟨A9, c9, rfl, hown9, hb9⟩
      have hb10 : Below w.heap.size w w8 := hb0.trans (hb9.mono hb0.size)
      have hown10 := own_bel hown3 hb9
      have hr9 := rd_own hown9
      have hrW3 := hrW2.below (hb9.mono hbs)
      rw [← HVL.out] at hown10
      obtain ⟨q, hq⟩ : ∃ q, q = (words out).length := ⟨_, rfl⟩
      rw [← hq]
      have HQ := Lib.hid hq
      clear hown9 hrW2 hq
      by_cases hat3 : at2 = L
      case neg =>
        have hE2 : tget b j = ([], 21) := by
          rw [HE.out, if_neg]
          intro h
          have h2 := (hIFF.out.1 h).1
          have := congrArg List.length h2
          rw [List.length_drop, ← HL.out, List.length_nil] at this; omega
        have HE2 := Lib.hid hE2
        have hI : ((at2 : Int) != (L : Int)) = true := by simp; omega
        clear hE2
        go_wp2_with fail
        go_ret2
        exact retVE_err HE2.out hb10
      have hdrop : b.drop at2 = [] := List.drop_eq_nil_of_le (by rw [hat3, HL.out]; exact Nat.le_refl _)
      have HDROP := Lib.hid hdrop
      have hI : ((at2 : Int) != (L : Int)) = false := by simp; omega
      clear hdrop hat3
      by_cases hqi : q = i
      case neg =>
        have hE2 : tget b j = ([], 21) := by
          rw [HE.out, if_neg]
          intro h
          have h2 := (hIFF.out.1 h).2
          have := congrArg List.length h2
          rw [← HQ.out] at this; omega
        have HE2 := Lib.hid hE2
        have hI : ((q : Int) != (i : Int)) = true := by simp; omega
        clear hE2
        go_wp2_with fail
        go_ret2
        exact retVE_err HE2.out hb10
      have hI : ((q : Int) != (i : Int)) = false := by simp; omega
      have HWL := Lib.hid hwl
      have hqi1 : q ≤ i := by omega
      have hqi2 : i ≤ q := by omega
      clear hqi hwl
      go_wp2_with fail
      obtain ⟨w9, hw9⟩ : ∃ w9, w9 = w8 := ⟨_, rfl⟩
      go_loopw [20] (fun v20 wr => ∃ (g : Nat), g ≤ i ∧ v20 = .int .i64 g ∧ (words out).take g = ws.take g ∧ wr.ownsRow w.heap.size 38 3 (.slice A8 j c8) out.length (vcells out) ∧ Rd wr w9.heap.size A9 (strs (words out)) ∧ Rd wr w9.heap.size A5 (strs ws) ∧ Below w.heap.size w wr) (fun v20 _ => i - (intOf v20).toNat)
      case atStart => exact ⟨0, by omega, rfl, by simp, hown10, by rw [hw9]; exact hr9, by rw [hw9]; exact hrW3.more (Nat.le_trans hbs hb9.size), hb10⟩
      case round =>
        clear hown10 hr9 hrW3 hb10
        obtain ⟨g, hg, rfl, htk, hown10, hr9, hrW3, hb10⟩ := hrel
        have HTK := Lib.hid htk
        clear htk
        by_cases hlt2 : g < i
        case neg =>
          have hgi : g = i := by omega
          have hE2 : tget b j = (out, 0) := by
            rw [HE.out, if_pos]
            refine hIFF.out.2 ⟨HDROP.out, ?_⟩
            have h := HTK.out
            rw [hgi] at h
            rwa [List.take_of_length_le (by rw [← HQ.out]; exact hqi1), List.take_of_length_le (by rw [HWL.out]; exact Nat.le_refl _)] at h
          have HE2 := Lib.hid hE2
          have hgeI3 : (i : Int) ≤ (g : Int) := by omega
          clear hE2 hgi
          go_wp2_with fail
          go_ret2
          exact retVE_ok HE2.out hown10 hb10
        have hltI : (g : Int) < (i : Int) := by omega
        have hltQ : (g : Int) < (q : Int) := by omega
        have hltQ2 : g < q := by omega
        obtain ⟨t, ht⟩ : ∃ t, ws[g]? = some t := ⟨_, List.getElem?_eq_getElem (by rw [HWL.out]; exact hlt2)⟩
        obtain ⟨s, hs⟩ : ∃ s, (words out)[g]? = some s := ⟨_, List.getElem?_eq_getElem (by rw [← HQ.out]; exact hltQ2)⟩
        obtain ⟨b1, o1, rfl, hb1, hc1⟩ := hr9.at (k := g) (by rw [List.length_map, ← HQ.out]; exact hltQ2)
        obtain ⟨b2, o2, rfl, hb2, hc2⟩ := hrW3.at (k := g) (by rw [List.length_map, HWL.out]; exact hlt2)
        have d1 := hc1 g (txt s) (by rw [List.getElem?_map, hs]; rfl)
        have d2 := hc2 g (txt t) (by rw [List.getElem?_map, ht]; rfl)
        have HT := Lib.hid ht
        have HS := Lib.hid hs
        clear hc1 hc2 ht hs
        by_cases hst : s = t
        · subst hst
          go_wp2_with fail
          refine ah_start 9 (fun w' => w'.cell? ⟨b1, o1 + g, none⟩ = some (txt s) ∧ w'.cell? ⟨b2, o2 + g, none⟩ = some (txt s)) rfl (by kernel_rfl) ⟨d1, d2⟩ ?_ ; intro hS
          (refine mv_val 0 (v := ?_) rfl (by kernel_rfl) (by kernel_rfl) (by kernel_rfl) (fun _ _ _ h => h) (by rfl) hS ?_ ?_; rotate_left; (focus (intro w hSw; (try dsimp only at hSw); (have f1 := hSw.1; have f2 := hSw.2; have f3 := hltI; have f4 := hltQ; have f5 := hlt2; have f6 := hltQ2); go_simp; first | done | with_reducible rfl)); simp only [Act.put, List.setIfInBounds_toArray, List.set_cons_zero, List.set_cons_succ])
          (refine mv_val 1 (v := ?_) rfl (by kernel_rfl) (by kernel_rfl) (by kernel_rfl) (fun _ _ _ h => h) (by rfl) hS ?_ ?_; rotate_left; (focus (intro w hSw; (try dsimp only at hSw); (have f1 := hSw.1; have f2 := hSw.2; have f3 := hltI; have f4 := hltQ; have f5 := hlt2; have f6 := hltQ2); go_simp; first | done | with_reducible rfl)); simp only [Act.put, List.setIfInBounds_toArray, List.set_cons_zero, List.set_cons_succ])
          (refine mv_val 2 (v := ?_) rfl (by kernel_rfl) (by kernel_rfl) (by kernel_rfl) (fun _ _ _ h => h) (by rfl) hS ?_ ?_; rotate_left; (focus (intro w hSw; (try dsimp only at hSw); (have f1 := hSw.1; have f2 := hSw.2; have f3 := hltI; have f4 := hltQ; have f5 := hlt2; have f6 := hltQ2); go_simp; first | done | with_reducible rfl)); simp only [Act.put, List.setIfInBounds_toArray, List.set_cons_zero, List.set_cons_succ])
          (refine mv_val 3 (v := ?_) rfl (by kernel_rfl) (by kernel_rfl) (by kernel_rfl) (fun _ _ _ h => h) (by rfl) hS ?_ ?_; rotate_left; (focus (intro w hSw; (try dsimp only at hSw); (have f1 := hSw.1; have f2 := hSw.2; have f3 := hltI; have f4 := hltQ; have f5 := hlt2; have f6 := hltQ2); go_simp; first | done | with_reducible rfl)); simp only [Act.put, List.setIfInBounds_toArray, List.set_cons_zero, List.set_cons_succ])
          (refine mv_val 4 (v := ?_) rfl (by kernel_rfl) (by kernel_rfl) (by kernel_rfl) (fun _ _ _ h => h) (by rfl) hS ?_ ?_; rotate_left; (focus (intro w hSw; (try dsimp only at hSw); (have f1 := hSw.1; have f2 := hSw.2; have f3 := hltI; have f4 := hltQ; have f5 := hlt2; have f6 := hltQ2); go_simp; first | done | with_reducible rfl)); simp only [Act.put, List.setIfInBounds_toArray, List.set_cons_zero, List.set_cons_succ])
          (refine mv_val 5 (v := ?_) rfl (by kernel_rfl) (by kernel_rfl) (by kernel_rfl) (fun _ _ _ h => h) (by rfl) hS ?_ ?_; rotate_left; (focus (intro w hSw; (try dsimp only at hSw); (have f1 := hSw.1; have f2 := hSw.2; have f3 := hltI; have f4 := hltQ; have f5 := hlt2; have f6 := hltQ2); go_simp; first | done | with_reducible rfl)); simp only [Act.put, List.setIfInBounds_toArray, List.set_cons_zero, List.set_cons_succ])
          (refine mv_val 6 (v := ?_) rfl (by kernel_rfl) (by kernel_rfl) (by kernel_rfl) (fun _ _ _ h => h) (by rfl) hS ?_ ?_; rotate_left; (focus (intro w hSw; (try dsimp only at hSw); (have f1 := hSw.1; have f2 := hSw.2; have f3 := hltI; have f4 := hltQ; have f5 := hlt2; have f6 := hltQ2); go_simp; first | done | with_reducible rfl)); simp only [Act.put, List.setIfInBounds_toArray, List.set_cons_zero, List.set_cons_succ])
          (refine mv_val 7 (v := ?_) rfl (by kernel_rfl) (by kernel_rfl) (by kernel_rfl) (fun _ _ _ h => h) (by rfl) hS ?_ ?_; rotate_left; (focus (intro w hSw; (try dsimp only at hSw); (have f1 := hSw.1; have f2 := hSw.2; have f3 := hltI; have f4 := hltQ; have f5 := hlt2; have f6 := hltQ2); go_simp; first | done | with_reducible rfl)); simp only [Act.put, List.setIfInBounds_toArray, List.set_cons_zero, List.set_cons_succ])
          (refine mv_val 8 (v := ?_) rfl (by kernel_rfl) (by kernel_rfl) (by kernel_rfl) (fun _ _ _ h => h) (by rfl) hS ?_ ?_; rotate_left; (focus (intro w hSw; (try dsimp only at hSw); (have f1 := hSw.1; have f2 := hSw.2; have f3 := hltI; have f4 := hltQ; have f5 := hlt2; have f6 := hltQ2); go_simp; first | done | with_reducible rfl)); simp only [Act.put, List.setIfInBounds_toArray, List.set_cons_zero, List.set_cons_succ])
          refine wpAnyH_done (by kernel_rfl) ?_ _
          go_wp2_with fail
          go_roundw
          case rel => exact ⟨g + 1, by omega, by go_num, take_more HTK.out HS.out HT.out rfl, hown10, hr9, hrW3, hb10.drew⟩
          case measure => simp [intOf]; omega
        · have hst2 : (s == t) = false := by simpa using hst
          have hE2 : tget b j = ([], 21) := by
            rw [HE.out, if_neg]
            intro h
            have h2 := (hIFF.out.1 h).2
            have h3 := HS.out
            rw [h2, HT.out] at h3
            exact hst (Option.some.inj h3).symm
          have HE2 := Lib.hid hE2
          clear hE2 hst
          go_wp2_with fail
          refine ah_start 9 (fun w' => w'.cell? ⟨b1, o1 + g, none⟩ = some (txt s) ∧ w'.cell? ⟨b2, o2 + g, none⟩ = some (txt t)) rfl (by kernel_rfl) ⟨d1, d2⟩ ?_ ; intro hS
          (refine mv_val 0 (v := ?_) rfl (by kernel_rfl) (by kernel_rfl) (by kernel_rfl) (fun _ _ _ h => h) (by rfl) hS ?_ ?_; rotate_left; (focus (intro w hSw; (try dsimp only at hSw); (have f1 := hSw.1; have f2 := hSw.2; have f3 := hltI; have f4 := hltQ; have f5 := hlt2; have f6 := hltQ2; have f7 := hst2); go_simp; first | done | with_reducible rfl)); simp only [Act.put, List.setIfInBounds_toArray, List.set_cons_zero, List.set_cons_succ])
          (refine mv_val 1 (v := ?_) rfl (by kernel_rfl) (by kernel_rfl) (by kernel_rfl) (fun _ _ _ h => h) (by rfl) hS ?_ ?_; rotate_left; (focus (intro w hSw; (try dsimp only at hSw); (have f1 := hSw.1; have f2 := hSw.2; have f3 := hltI; have f4 := hltQ; have f5 := hlt2; have f6 := hltQ2; have f7 := hst2); go_simp; first | done | with_reducible rfl)); simp only [Act.put, List.setIfInBounds_toArray, List.set_cons_zero, List.set_cons_succ])
          (refine mv_val 2 (v := ?_) rfl (by kernel_rfl) (by kernel_rfl) (by kernel_rfl) (fun _ _ _ h => h) (by rfl) hS ?_ ?_; rotate_left; (focus (intro w hSw; (try dsimp only at hSw); (have f1 := hSw.1; have f2 := hSw.2; have f3 := hltI; have f4 := hltQ; have f5 := hlt2; have f6 := hltQ2; have f7 := hst2); go_simp; first | done | with_reducible rfl)); simp only [Act.put, List.setIfInBounds_toArray, List.set_cons_zero, List.set_cons_succ])
          (refine mv_val 3 (v := ?_) rfl (by kernel_rfl) (by kernel_rfl) (by kernel_rfl) (fun _ _ _ h => h) (by rfl) hS ?_ ?_; rotate_left; (focus (intro w hSw; (try dsimp only at hSw); (have f1 := hSw.1; have f2 := hSw.2; have f3 := hltI; have f4 := hltQ; have f5 := hlt2; have f6 := hltQ2; have f7 := hst2); go_simp; first | done | with_reducible rfl)); simp only [Act.put, List.setIfInBounds_toArray, List.set_cons_zero, List.set_cons_succ])
          (refine mv_val 4 (v := ?_) rfl (by kernel_rfl) (by kernel_rfl) (by kernel_rfl) (fun _ _ _ h => h) (by rfl) hS ?_ ?_; rotate_left; (focus (intro w hSw; (try dsimp only at hSw); (have f1 := hSw.1; have f2 := hSw.2; have f3 := hltI; have f4 := hltQ; have f5 := hlt2; have f6 := hltQ2; have f7 := hst2); go_simp; first | done | with_reducible rfl)); simp only [Act.put, List.setIfInBounds_toArray, List.set_cons_zero, List.set_cons_succ])
          (refine mv_val 5 (v := ?_) rfl (by kernel_rfl) (by kernel_rfl) (by kernel_rfl) (fun _ _ _ h => h) (by rfl) hS ?_ ?_; rotate_left; (focus (intro w hSw; (try dsimp only at hSw); (have f1 := hSw.1; have f2 := hSw.2; have f3 := hltI; have f4 := hltQ; have f5 := hlt2; have f6 := hltQ2; have f7 := hst2); go_simp; first | done | with_reducible rfl)); simp only [Act.put, List.setIfInBounds_toArray, List.set_cons_zero, List.set_cons_succ])
          (refine mv_val 6 (v := ?_) rfl (by kernel_rfl) (by kernel_rfl) (by kernel_rfl) (fun _ _ _ h => h) (by rfl) hS ?_ ?_; rotate_left; (focus (intro w hSw; (try dsimp only at hSw); (have f1 := hSw.1; have f2 := hSw.2; have f3 := hltI; have f4 := hltQ; have f5 := hlt2; have f6 := hltQ2; have f7 := hst2); go_simp; first | done | with_reducible rfl)); simp only [Act.put, List.setIfInBounds_toArray, List.set_cons_zero, List.set_cons_succ])
          (refine mv_val 7 (v := ?_) rfl (by kernel_rfl) (by kernel_rfl) (by kernel_rfl) (fun _ _ _ h => h) (by rfl) hS ?_ ?_; rotate_left; (focus (intro w hSw; (try dsimp only at hSw); (have f1 := hSw.1; have f2 := hSw.2; have f3 := hltI; have f4 := hltQ; have f5 := hlt2; have f6 := hltQ2; have f7 := hst2); go_simp; first | done | with_reducible rfl)); simp only [Act.put, List.setIfInBounds_toArray, List.set_cons_zero, List.set_cons_succ])
          (refine mv_val 8 (v := ?_) rfl (by kernel_rfl) (by kernel_rfl) (by kernel_rfl) (fun _ _ _ h => h) (by rfl) hS ?_ ?_; rotate_left; (focus (intro w hSw; (try dsimp only at hSw); (have f1 := hSw.1; have f2 := hSw.2; have f3 := hltI; have f4 := hltQ; have f5 := hlt2; have f6 := hltQ2; have f7 := hst2); go_simp; first | done | with_reducible rfl)); simp only [Act.put, List.setIfInBounds_toArray, List.set_cons_zero, List.set_cons_succ])
          refine wpAnyH_done (by kernel_rfl) ?_ _
          go_wp2_with fail
          go_ret2
          exact retVE_err HE2.out hb10.drew
end Go.Proofs.Ytiijnfakphhbeaa

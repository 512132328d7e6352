/- Joined texts: see the remark ahead of each part. No condition but those that the parts name. -/
import Derived.Test.YthkpgjcnnfdibaaCRb
import Derived.Test.YthkpgjcnnfdibaaCoQ
/-! The walk of the reference's read (layer 6). No condition but sizes. -/
namespace Go.Proofs.Ythkpgjcnnfdibaa
open Go.RowKit Go.Maps
set_option linter.unusedVariables false
set_option linter.unusedSimpArgs false

set_option maxHeartbeats 8000000 in
set_option maxRecDepth 100000 in
theorem rread_any (B : Nat) (A : Option Addr) (c : Nat) (b : List UInt8) (n : Nat) (w : World) (hr : Rd w B A (cells b)) (hc : b.length ≤ c) (hB : B ≤ w.heap.size) (hn : n ≤ 65536) (hbl : b.length ≤ 4000000000) :
    Calls Try.prog 101 #[.slice A b.length c, .int .i64 (n : Int)] w (RetVE w (tget b n)) := by
  obtain ⟨L, hL⟩ : ∃ L, L = b.length := ⟨_, rfl⟩
  have HL := Lib.hid hL
  have G0 := rGet_any B A c b w hr (by omega)
  obtain ⟨_, hv2, hv3⟩ := vget_val b
  have hm64 := (vget_val b).1
  obtain ⟨x, hx⟩ : ∃ x, vget b = x := ⟨_, rfl⟩
  rw [hx] at G0 hv2 hv3 hm64
  obtain ⟨m, k, er⟩ := x
  dsimp only at hv2 hv3 hm64
  have HFR : ∀ (w' : World) (u : Nat), Below w.heap.size w w' → u ≤ L → ∃ A' c', (∀ w'' (z : Int), z = u → (Instr.sliceAt 22 (.slice A L c) (some (.int .i64 z)) none none).run Try.prog w'' = .ok (.slice A' (b.drop u).length c') w'') ∧ Rd w' B A' (cells (b.drop u)) ∧ (b.drop u).length ≤ c' := fun w' u h hu => by
    rw [hL]; exact from_any c u (by omega) hc (hr.below (h.mono hB))
  have HMD : ∀ (w' : World) (u v : Nat), Below w.heap.size w w' → u ≤ v → v ≤ L → ∃ A' c', (∀ w'' (y z : Int), y = u → z = v → (Instr.sliceAt 22 (.slice A L c) (some (.int .i64 y)) (some (.int .i64 z)) none).run Try.prog w'' = .ok (.slice A' ((b.drop u).take (v - u)).length c') w'') ∧ Rd w' B A' (cells ((b.drop u).take (v - u))) ∧ ((b.drop u).take (v - u)).length ≤ c' := fun w' u v h hu hv => by
    rw [hL]; exact mid_any c u v hu (by omega) hc (hr.below (h.mono hB))
  have HF := Lib.hid HFR
  have HD := Lib.hid HMD
  rw [← hL] at G0 hv3 hbl ⊢
  have HG := Lib.hid G0
  have HX := Lib.hid hx
  have hwn : IntKind.u64.wrap (n : Int) = (n : Int) := by rw [IntKind.wrap_u64]; omega
  clear G0 hx HFR HMD hL hr hc
  go_enter Try.func101, Try.ntmps101
  go_wp2_with fail
  refine HG.out.mono ?_; rintro e w1 ⟨rfl, rfl⟩
  by_cases her : er = 0
  case neg =>
    have HE := Lib.hid (tget_e1 (n := n) HX.out her)
    have heI : ((er : Int) != 0) = true := by simp; omega
    clear her
    go_wp2_with fail
    go_ret2
    exact retVE_err HE.out (Below.refl _ _)
  subst her
  by_cases hmn : n < m
  case pos =>
    have HE := Lib.hid (tget_many HX.out hmn)
    have hmI : (n : Int) < (m : Int) := by omega
    go_wp2_with fail
    go_ret2
    exact retVE_err HE.out (Below.refl _ _)
  have hmI : ¬ ((n : Int) < (m : Int)) := by omega
  go_wp2_with fail
  go_loopw [7, 9, 10] (fun v7 v9 v10 wr => ∃ (i at_ : Nat) (ws : List (List UInt8)), i ≤ m ∧ v10 = .int .u64 i ∧ v7 = .int .i64 at_ ∧ at_ ≤ L ∧
      ws.length = i ∧ (∀ t ∈ ws, t.length ≤ L) ∧ rwords m [] (b.drop k) = rwords (m - i) ws (b.drop at_) ∧ wr.ownsRow w.heap.size 9 1 v9 i (strs ws) ∧ Below w.heap.size w wr) (fun _ _ v10 _ => m - (intOf v10).toNat)
  case atStart => exact ⟨0, k, [], by omega, rfl, rfl, hv3, rfl, by simp, rfl, World.ownsRow_nil _ _ _ _, Below.refl _ _⟩
  case round =>
    obtain ⟨i, at_, ws, him, rfl, rfl, hat, hwl, hwt, hrw, hown, hbel⟩ := hrel
    have hbs := hbel.size
    by_cases hlt : i < m
    case pos =>
      have hltI : (i : Int) < (m : Int) := by omega
      obtain ⟨A1, c1, hs1, hr1, hc1⟩ := HF.out wr at_ hbel hat
      obtain ⟨r, hrr⟩ : ∃ r, r = b.drop at_ := ⟨_, rfl⟩
      have hrl : r.length = L - at_ := by rw [hrr, List.length_drop, HL.out]
      rw [← hrr] at hs1 hr1 hc1 hrw
      have hsl := fun w' => hs1 w' (at_ : Int) rfl
      have G1 := rGet_any B A1 c1 r wr hr1 (by omega)
      obtain ⟨hs64, hk10, hkl⟩ := vget_val r
      have hstep : rwords m [] (b.drop k) = rwords (m - (i + 1) + 1) ws r := by rw [hrw, show m - (i + 1) + 1 = m - i by omega]
      rw [rwords_succ] at hstep
      obtain ⟨x, hx⟩ : ∃ x, vget r = x := ⟨_, rfl⟩
      rw [hx] at G1 hs64 hk10 hkl hstep
      obtain ⟨sz, kk, er⟩ := x
      dsimp only at hs64 hk10 hkl hstep
      rw [hrl] at hsl G1 hkl hstep
      have HG1 := Lib.hid G1
      have HX1 := Lib.hid hx
      have HST := Lib.hid hstep
      have HRR := Lib.hid hrr
      clear G1 hx hstep hrw hs1 hr1 hc1 hrl hrr
      go_wp2_with fail
      refine HG1.out.mono ?_; rintro e w1 ⟨rfl, rfl⟩
      by_cases her : er = 0
      case neg =>
        have hR : rwords m [] (b.drop k) = ([], [], er) := by rw [HST.out, if_pos her]
        have HE := Lib.hid (tget_words HX.out hmn hR her)
        have heI : ((er : Int) != 0) = true := by simp; omega
        clear her hR
        go_wp2_with fail
        go_ret2
        exact retVE_err HE.out hbel
      subst her
      have hw0 : IntKind.i64.wrap ((L : Int) - (at_ : Int)) = ((L - at_ : Nat) : Int) := by rw [IntKind.wrap_i64]; omega
      have hw00 : IntKind.i64.wrap (((L - at_ : Nat) : Int) - (kk : Int)) = ((L - at_ - kk : Nat) : Int) := by rw [IntKind.wrap_i64]; omega
      have hw01 : IntKind.i64.wrap ((L : Int) - (at_ : Int) - (kk : Int)) = ((L - at_ - kk : Nat) : Int) := by rw [IntKind.wrap_i64]; omega
      have hw1 : IntKind.u64.wrap ((L : Int) - (at_ : Int) - (kk : Int)) = ((L - at_ - kk : Nat) : Int) := by rw [IntKind.wrap_u64]; omega
      have hw11 : IntKind.u64.wrap ((L - at_ - kk : Nat) : Int) = ((L - at_ - kk : Nat) : Int) := by rw [IntKind.wrap_u64]; omega
      by_cases hsh : L - at_ - kk < sz
      case pos =>
        have hR : rwords m [] (b.drop k) = ([], [], 20) := by rw [HST.out, if_neg (by simp), if_pos hsh]
        have HE := Lib.hid (tget_words HX.out hmn hR (by decide))
        have hshI : ((L - at_ - kk : Nat) : Int) < (sz : Int) := by omega
        have hshI2 : (L : Int) - (at_ : Int) - (kk : Int) < (sz : Int) := by omega
        clear hR hsh
        go_wp2_with fail
        go_ret2
        exact retVE_err HE.out hbel
      have hshI : (sz : Int) ≤ ((L - at_ - kk : Nat) : Int) := by omega
      have hshI2 : (sz : Int) ≤ (L : Int) - (at_ : Int) - (kk : Int) := by omega
      have hR : rwords m [] (b.drop k) = rwords (m - (i + 1)) (ws ++ [(r.drop kk).take sz]) (r.drop (kk + sz)) := by rw [HST.out, if_neg (by simp), if_neg hsh]
      rw [HRR.out, List.drop_drop, List.drop_drop] at hR
      obtain ⟨A3, c3, hs3, hr3, hc3⟩ := HD.out wr (at_ + kk) (at_ + kk + sz) hbel (by omega) (by omega)
      rw [show at_ + kk + sz - (at_ + kk) = sz by omega] at hs3 hr3 hc3
      have htl0 : ((b.drop (at_ + kk)).take sz).length ≤ L := by rw [List.length_take, List.length_drop, ← HL.out]; omega
      obtain ⟨t, ht⟩ : ∃ t, t = (b.drop (at_ + kk)).take sz := ⟨_, rfl⟩
      rw [← ht] at hs3 hr3 hc3 hR htl0
      have hsl3 := fun w' => hs3 w' ((at_ : Int) + (kk : Int)) ((at_ : Int) + (kk : Int) + (sz : Int)) (by omega) (by omega)
      have hcv := conv_rd hr3 c3
      have hw2 : IntKind.i64.wrap (sz : Int) = (sz : Int) := by rw [IntKind.wrap_i64]; omega
      have hmw : strs (ws ++ [t]) = strs ws ++ [txt t] := by simp [strs]
      have HMW := Lib.hid hmw
      have HR := Lib.hid hR
      have hwl2 := Lib.hid hwl
      clear hs3 hsh hR ht hmw hwl hsl
      go_wp2_with (at_builtin; refine wpList_app El_str rfl _ _ rfl (hown.alloc _) rfl rfl (by exact rd_one _ _ _ _ _ rfl (Nat.lt_add_one _)) rfl (by intro u hu; simp at hu; subst hu; rfl) (by unfold maxLen; omega) (by omega) (by have := hbel.size; simp; omega) ?_; intro v4 w4 hown4 hg4 _)
      have hb4 : Below w.heap.size w w4 := (hbel.alloc hbel.size _).trans (own_below (hown.alloc _) hg4 (by have := hbel.size; simp; omega))
      go_roundw
      case rel => exact ⟨i + 1, at_ + kk + sz, ws ++ [t], by omega, by go_num, by go_num, by omega, by rw [List.length_append, hwl2.out]; rfl, (by intro u hu; rcases List.mem_append.1 hu with h | h; exact hwt u h; simp at h; rw [h]; exact htl0), by rw [HR.out, Nat.add_assoc], by rw [HMW.out]; exact hown4, hb4⟩
      case measure => simp [intOf]; omega
    have hii : i = m := by omega
    subst hii
    have hgeI : ¬ ((i : Int) < (i : Int)) := by omega
    rw [Nat.sub_self] at hrw
    have hRW : rwords i [] (b.drop k) = (ws, b.drop at_, 0) := by rw [hrw]; rfl
    have HRW := Lib.hid hRW
    clear hrw hRW
    go_wp2_with fail
    obtain ⟨A5, c5, rfl, hc5⟩ := own_form hown
    have hrW := rd_own hown
    have hbW := hbel
    obtain ⟨w2, hw2⟩ : ∃ w2, w2 = wr := ⟨_, rfl⟩
    subst hw2
    obtain ⟨by_, HEL, hby⟩ := El_val
    go_loopw [7, 14, 15] (fun v7 v14 v15 wr => ∃ (j at2 : Nat) (out : List V), j ≤ n ∧ v15 = .int .i64 j ∧ v7 = .int .i64 at2 ∧ at2 ≤ L ∧
        out.length = j ∧ (∀ v ∈ out, v.t ∈ ws ∧ v.k = 3) ∧ rmarks ws n [] (b.drop at_) = rmarks ws (n - j) out (b.drop at2) ∧ wr.ownsRow w2.heap.size 46 3 v14 j (vcells out) ∧ Below w2.heap.size w2 wr) (fun _ _ v15 _ => n - (intOf v15).toNat)
    case atStart => exact ⟨0, at_, [], by omega, rfl, rfl, hat, rfl, by simp, rfl, World.ownsRow_nil _ _ _ _, Below.refl _ _⟩
    case round =>
      clear hbel hbs
      obtain ⟨j, at2, out, hjn, rfl, rfl, hat2, hol, hot, hrm, hown2, hbel⟩ := hrel
      have hbs := hbel.size
      have hb0 : Below w.heap.size w wr := hbW.trans (hbel.mono hbW.size)
      by_cases hlt : j < n
      case pos =>
        have hltI : (j : Int) < (n : Int) := by omega
        obtain ⟨A1, c1, hs1, hr1, hc1⟩ := HF.out wr at2 hb0 hat2
        obtain ⟨r, hrr⟩ : ∃ r, r = b.drop at2 := ⟨_, rfl⟩
        have hrl : r.length = L - at2 := by rw [hrr, List.length_drop, HL.out]
        rw [← hrr] at hs1 hr1 hc1 hrm
        have hsl := fun w' => hs1 w' (at2 : Int) rfl
        have G1 := rGet_any B A1 c1 r wr hr1 (by omega)
        obtain ⟨hs64, hk10, hkl⟩ := vget_val r
        have hstep : rmarks ws n [] (b.drop at_) = rmarks ws (n - (j + 1) + 1) out r := by rw [hrm, show n - (j + 1) + 1 = n - j by omega]
        rw [rmarks_succ] at hstep
        obtain ⟨x, hx⟩ : ∃ x, vget r = x := ⟨_, rfl⟩
        rw [hx] at G1 hs64 hk10 hkl hstep
        obtain ⟨y, kk, er⟩ := x
        dsimp only at hs64 hk10 hkl hstep
        rw [hrl] at hsl G1 hkl
        have HG1 := Lib.hid G1
        have HX1 := Lib.hid hx
        have HST := Lib.hid hstep
        have HRR := Lib.hid hrr
        clear G1 hx hstep hrm hs1 hr1 hc1 hrl hrr
        go_wp2_with fail
        refine HG1.out.mono ?_; rintro e w1 ⟨rfl, rfl⟩
        by_cases her : er = 0
        case neg =>
          have hR : rmarks ws n [] (b.drop at_) = ([], [], er) := by rw [HST.out, if_pos her]
          have HE := Lib.hid (tget_marks HX.out hmn HRW.out hR her)
          have heI : ((er : Int) != 0) = true := by simp; omega
          clear her hR
          go_wp2_with fail
          go_ret2
          exact retVE_err HE.out hb0
        subst her
        by_cases hsh : ws.length ≤ y
        case pos =>
          have hR : rmarks ws n [] (b.drop at_) = ([], [], 21) := by rw [HST.out, if_neg (by simp), if_pos hsh]
          have HE := Lib.hid (tget_marks HX.out hmn HRW.out hR (by decide))
          have hshI : (i : Int) ≤ (y : Int) := by omega
          clear hR hsh
          go_wp2_with fail
          go_ret2
          exact retVE_err HE.out hb0
        have hshI : (y : Int) < (i : Int) := by omega
        have hyi : y < i := by omega
        obtain ⟨t, ht⟩ : ∃ t, ws[y]? = some t := ⟨_, List.getElem?_eq_getElem (by omega)⟩
        have hR : rmarks ws n [] (b.drop at_) = rmarks ws (n - (j + 1)) (out ++ [⟨3, 0, t⟩]) (r.drop kk) := by rw [HST.out, if_neg (by simp), if_neg hsh, ht]; rfl
        rw [HRR.out, List.drop_drop] at hR
        obtain ⟨bb, oo, rfl, hbb, hcell⟩ := hrW.at (k := y) (by simp; omega)
        have hck0 := hcell y (txt t) (by rw [List.getElem?_map, ht]; rfl)
        have hck := (hbel.cell (p := ⟨bb, oo + y, none⟩) hbb).trans hck0
        have htw : t ∈ ws := List.mem_of_getElem? ht
        have HR := Lib.hid hR
        have hnx : vcells (out ++ [⟨3, 0, t⟩]) = vcells out ++ cv ⟨3, 0, t⟩ := by rw [vcells_append]; simp [vcells]
        have HNX := Lib.hid hnx
        have HOL := Lib.hid hol
        clear hR ht hsh hnx hcell hck0 hol hsl
        go_wp2_with (at_builtin; refine wpList_app HEL rfl _ _ rfl (hown2.alloc _) rfl rfl (by exact cv_three (⟨3, 0, t⟩ : V) rfl) rfl (cv_one _) (by unfold maxLen; omega) (by have : (j + 1) * by_ ≤ 65537 * 64 := Nat.mul_le_mul (by omega) hby; omega) (by simp; omega) ?_; intro v7 w7 hown7 hg7 _)
        have hb7 : Below w2.heap.size w2 w7 := (hbel.alloc hbs _).trans (own_below (hown2.alloc _) hg7 (by simp; omega))
        go_roundw
        case rel => exact ⟨j + 1, at2 + kk, out ++ [⟨3, 0, t⟩], by omega, by go_num, by go_num, by omega, by rw [List.length_append, HOL.out]; rfl, (by intro u hu; rcases List.mem_append.1 hu with h | h; exact hot u h; simp at h; rw [h]; exact ⟨htw, rfl⟩), HR.out, by rw [HNX.out]; exact hown7, hb7⟩
        case measure => simp [intOf]; omega
      have hjn2 : j = n := by omega
      subst hjn2
      have hgeI2 : ¬ ((j : Int) < (j : Int)) := by omega
      rw [Nat.sub_self] at hrm
      have hRM : rmarks ws j [] (b.drop at_) = (out, b.drop at2, 0) := by rw [hrm]; rfl
      have HE := Lib.hid (tget_end HX.out hmn HRW.out hRM)
      have hiff := tput_iff (by omega) (by rw [← HL.out]; omega) HX.out HRW.out hRM
      have hIFF := Lib.hid hiff
      obtain ⟨A8, c8, rfl, hc8⟩ := own_form hown2
      have W0 := rWords_any wr.heap.size A8 c8 out wr (rd_own hown2) (Nat.le_refl _) (by omega) (fun v hv => (hot v hv).2)
      rw [hol] at W0
      have HW := Lib.hid W0
      have hown3 := own_lower hown2 hbW.size
      rw [← hol] at hown3
      have hvl : (Value.slice A8 j c8) = .slice A8 out.length c8 := by rw [hol]
      have HVL := Lib.hid hvl
      have hrW2 := hrW.below hbel
      clear hrm hRM hiff W0 hol hvl hown2
      go_wp2_with fail
      refine HW.out.mono ?_; rintro e w8 ⟨A9, c9, rfl, hown9, hb9⟩
      have hb10 : Below w.heap.size w w8 := hb0.trans (hb9.mono hb0.size)
      have hown10 := own_bel hown3 hb9
      have hr9 := rd_own hown9
      have hrW3 := hrW2.below (hb9.mono hbs)
      rw [← HVL.out] at hown10
      obtain ⟨q, hq⟩ : ∃ q, q = (words out).length := ⟨_, rfl⟩
      rw [← hq]
      have HQ := Lib.hid hq
      clear hown9 hrW2 hq
      by_cases hat3 : at2 = L
      case neg =>
        have hE2 : tget b j = ([], 21) := by
          rw [HE.out, if_neg]
          intro h
          have h2 := (hIFF.out.1 h).1
          have := congrArg List.length h2
          rw [List.length_drop, ← HL.out, List.length_nil] at this; omega
        have HE2 := Lib.hid hE2
        have hI : ((at2 : Int) != (L : Int)) = true := by simp; omega
        clear hE2
        go_wp2_with fail
        go_ret2
        exact retVE_err HE2.out hb10
      have hdrop : b.drop at2 = [] := List.drop_eq_nil_of_le (by rw [hat3, HL.out]; exact Nat.le_refl _)
      have HDROP := Lib.hid hdrop
      have hI : ((at2 : Int) != (L : Int)) = false := by simp; omega
      clear hdrop hat3
      by_cases hqi : q = i
      case neg =>
        have hE2 : tget b j = ([], 21) := by
          rw [HE.out, if_neg]
          intro h
          have h2 := (hIFF.out.1 h).2
          have := congrArg List.length h2
          rw [← HQ.out] at this; omega
        have HE2 := Lib.hid hE2
        have hI : ((q : Int) != (i : Int)) = true := by simp; omega
        clear hE2
        go_wp2_with fail
        go_ret2
        exact retVE_err HE2.out hb10
      have hI : ((q : Int) != (i : Int)) = false := by simp; omega
      have HWL := Lib.hid hwl
      have hqi1 : q ≤ i := by omega
      have hqi2 : i ≤ q := by omega
      clear hqi hwl
      go_wp2_with fail
      obtain ⟨w9, hw9⟩ : ∃ w9, w9 = w8 := ⟨_, rfl⟩
      go_loopw [20] (fun v20 wr => ∃ (g : Nat), g ≤ i ∧ v20 = .int .i64 g ∧ (words out).take g = ws.take g ∧ wr.ownsRow w.heap.size 46 3 (.slice A8 j c8) out.length (vcells out) ∧ Rd wr w9.heap.size A9 (strs (words out)) ∧ Rd wr w9.heap.size A5 (strs ws) ∧ Below w.heap.size w wr) (fun v20 _ => i - (intOf v20).toNat)
      case atStart => exact ⟨0, by omega, rfl, by simp, hown10, by rw [hw9]; exact hr9, by rw [hw9]; exact hrW3.more (Nat.le_trans hbs hb9.size), hb10⟩
      case round =>
        clear hown10 hr9 hrW3 hb10
        obtain ⟨g, hg, rfl, htk, hown10, hr9, hrW3, hb10⟩ := hrel
        have HTK := Lib.hid htk
        clear htk
        by_cases hlt2 : g < i
        case neg =>
          have hgi : g = i := by omega
          have hE2 : tget b j = (out, 0) := by
            rw [HE.out, if_pos]
            refine hIFF.out.2 ⟨HDROP.out, ?_⟩
            have h := HTK.out
            rw [hgi] at h
            rwa [List.take_of_length_le (by rw [← HQ.out]; exact hqi1), List.take_of_length_le (by rw [HWL.out]; exact Nat.le_refl _)] at h
          have HE2 := Lib.hid hE2
          have hgeI3 : (i : Int) ≤ (g : Int) := by omega
          clear hE2 hgi
          go_wp2_with fail
          go_ret2
          exact retVE_ok HE2.out hown10 hb10
        have hltI : (g : Int) < (i : Int) := by omega
        have hltQ : (g : Int) < (q : Int) := by omega
        have hltQ2 : g < q := by omega
        obtain ⟨t, ht⟩ : ∃ t, ws[g]? = some t := ⟨_, List.getElem?_eq_getElem (by rw [HWL.out]; exact hlt2)⟩
        obtain ⟨s, hs⟩ : ∃ s, (words out)[g]? = some s := ⟨_, List.getElem?_eq_getElem (by rw [← HQ.out]; exact hltQ2)⟩
        obtain ⟨b1, o1, rfl, hb1, hc1⟩ := hr9.at (k := g) (by rw [List.length_map, ← HQ.out]; exact hltQ2)
        obtain ⟨b2, o2, rfl, hb2, hc2⟩ := hrW3.at (k := g) (by rw [List.length_map, HWL.out]; exact hlt2)
        have d1 := hc1 g (txt s) (by rw [List.getElem?_map, hs]; rfl)
        have d2 := hc2 g (txt t) (by rw [List.getElem?_map, ht]; rfl)
        have HT := Lib.hid ht
        have HS := Lib.hid hs
        clear hc1 hc2 ht hs
        by_cases hst : s = t
        · subst hst
          go_wp2_with fail
          refine ah_start 9 (fun w' => w'.cell? ⟨b1, o1 + g, none⟩ = some (txt s) ∧ w'.cell? ⟨b2, o2 + g, none⟩ = some (txt s)) rfl (by kernel_rfl) ⟨d1, d2⟩ ?_ ; intro hS
          (refine mv_val 0 (v := ?_) rfl (by kernel_rfl) (by kernel_rfl) (by kernel_rfl) (fun _ _ _ h => h) (by rfl) hS ?_ ?_; rotate_left; (focus (intro w hSw; (try dsimp only at hSw); (have f1 := hSw.1; have f2 := hSw.2; have f3 := hltI; have f4 := hltQ; have f5 := hlt2; have f6 := hltQ2); go_simp; first | done | with_reducible rfl)); simp only [Act.put, List.setIfInBounds_toArray, List.set_cons_zero, List.set_cons_succ])
          (refine mv_val 1 (v := ?_) rfl (by kernel_rfl) (by kernel_rfl) (by kernel_rfl) (fun _ _ _ h => h) (by rfl) hS ?_ ?_; rotate_left; (focus (intro w hSw; (try dsimp only at hSw); (have f1 := hSw.1; have f2 := hSw.2; have f3 := hltI; have f4 := hltQ; have f5 := hlt2; have f6 := hltQ2); go_simp; first | done | with_reducible rfl)); simp only [Act.put, List.setIfInBounds_toArray, List.set_cons_zero, List.set_cons_succ])
          (refine mv_val 2 (v := ?_) rfl (by kernel_rfl) (by kernel_rfl) (by kernel_rfl) (fun _ _ _ h => h) (by rfl) hS ?_ ?_; rotate_left; (focus (intro w hSw; (try dsimp only at hSw); (have f1 := hSw.1; have f2 := hSw.2; have f3 := hltI; have f4 := hltQ; have f5 := hlt2; have f6 := hltQ2); go_simp; first | done | with_reducible rfl)); simp only [Act.put, List.setIfInBounds_toArray, List.set_cons_zero, List.set_cons_succ])
          (refine mv_val 3 (v := ?_) rfl (by kernel_rfl) (by kernel_rfl) (by kernel_rfl) (fun _ _ _ h => h) (by rfl) hS ?_ ?_; rotate_left; (focus (intro w hSw; (try dsimp only at hSw); (have f1 := hSw.1; have f2 := hSw.2; have f3 := hltI; have f4 := hltQ; have f5 := hlt2; have f6 := hltQ2); go_simp; first | done | with_reducible rfl)); simp only [Act.put, List.setIfInBounds_toArray, List.set_cons_zero, List.set_cons_succ])
          (refine mv_val 4 (v := ?_) rfl (by kernel_rfl) (by kernel_rfl) (by kernel_rfl) (fun _ _ _ h => h) (by rfl) hS ?_ ?_; rotate_left; (focus (intro w hSw; (try dsimp only at hSw); (have f1 := hSw.1; have f2 := hSw.2; have f3 := hltI; have f4 := hltQ; have f5 := hlt2; have f6 := hltQ2); go_simp; first | done | with_reducible rfl)); simp only [Act.put, List.setIfInBounds_toArray, List.set_cons_zero, List.set_cons_succ])
          (refine mv_val 5 (v := ?_) rfl (by kernel_rfl) (by kernel_rfl) (by kernel_rfl) (fun _ _ _ h => h) (by rfl) hS ?_ ?_; rotate_left; (focus (intro w hSw; (try dsimp only at hSw); (have f1 := hSw.1; have f2 := hSw.2; have f3 := hltI; have f4 := hltQ; have f5 := hlt2; have f6 := hltQ2); go_simp; first | done | with_reducible rfl)); simp only [Act.put, List.setIfInBounds_toArray, List.set_cons_zero, List.set_cons_succ])
          (refine mv_val 6 (v := ?_) rfl (by kernel_rfl) (by kernel_rfl) (by kernel_rfl) (fun _ _ _ h => h) (by rfl) hS ?_ ?_; rotate_left; (focus (intro w hSw; (try dsimp only at hSw); (have f1 := hSw.1; have f2 := hSw.2; have f3 := hltI; have f4 := hltQ; have f5 := hlt2; have f6 := hltQ2); go_simp; first | done | with_reducible rfl)); simp only [Act.put, List.setIfInBounds_toArray, List.set_cons_zero, List.set_cons_succ])
          (refine mv_val 7 (v := ?_) rfl (by kernel_rfl) (by kernel_rfl) (by kernel_rfl) (fun _ _ _ h => h) (by rfl) hS ?_ ?_; rotate_left; (focus (intro w hSw; (try dsimp only at hSw); (have f1 := hSw.1; have f2 := hSw.2; have f3 := hltI; have f4 := hltQ; have f5 := hlt2; have f6 := hltQ2); go_simp; first | done | with_reducible rfl)); simp only [Act.put, List.setIfInBounds_toArray, List.set_cons_zero, List.set_cons_succ])
          (refine mv_val 8 (v := ?_) rfl (by kernel_rfl) (by kernel_rfl) (by kernel_rfl) (fun _ _ _ h => h) (by rfl) hS ?_ ?_; rotate_left; (focus (intro w hSw; (try dsimp only at hSw); (have f1 := hSw.1; have f2 := hSw.2; have f3 := hltI; have f4 := hltQ; have f5 := hlt2; have f6 := hltQ2); go_simp; first | done | with_reducible rfl)); simp only [Act.put, List.setIfInBounds_toArray, List.set_cons_zero, List.set_cons_succ])
          refine wpAnyH_done (by kernel_rfl) ?_ _
          go_wp2_with fail
          go_roundw
          case rel => exact ⟨g + 1, by omega, by go_num, take_more HTK.out HS.out HT.out rfl, hown10, hr9, hrW3, hb10.drew⟩
          case measure => simp [intOf]; omega
        · have hst2 : (s == t) = false := by simpa using hst
          have hE2 : tget b j = ([], 21) := by
            rw [HE.out, if_neg]
            intro h
            have h2 := (hIFF.out.1 h).2
            have h3 := HS.out
            rw [h2, HT.out] at h3
            exact hst (Option.some.inj h3).symm
          have HE2 := Lib.hid hE2
          clear hE2 hst
          go_wp2_with fail
          refine ah_start 9 (fun w' => w'.cell? ⟨b1, o1 + g, none⟩ = some (txt s) ∧ w'.cell? ⟨b2, o2 + g, none⟩ = some (txt t)) rfl (by kernel_rfl) ⟨d1, d2⟩ ?_ ; intro hS
          (refine mv_val 0 (v := ?_) rfl (by kernel_rfl) (by kernel_rfl) (by kernel_rfl) (fun _ _ _ h => h) (by rfl) hS ?_ ?_; rotate_left; (focus (intro w hSw; (try dsimp only at hSw); (have f1 := hSw.1; have f2 := hSw.2; have f3 := hltI; have f4 := hltQ; have f5 := hlt2; have f6 := hltQ2; have f7 := hst2); go_simp; first | done | with_reducible rfl)); simp only [Act.put, List.setIfInBounds_toArray, List.set_cons_zero, List.set_cons_succ])
          (refine mv_val 1 (v := ?_) rfl (by kernel_rfl) (by kernel_rfl) (by kernel_rfl) (fun _ _ _ h => h) (by rfl) hS ?_ ?_; rotate_left; (focus (intro w hSw; (try dsimp only at hSw); (have f1 := hSw.1; have f2 := hSw.2; have f3 := hltI; have f4 := hltQ; have f5 := hlt2; have f6 := hltQ2; have f7 := hst2); go_simp; first | done | with_reducible rfl)); simp only [Act.put, List.setIfInBounds_toArray, List.set_cons_zero, List.set_cons_succ])
          (refine mv_val 2 (v := ?_) rfl (by kernel_rfl) (by kernel_rfl) (by kernel_rfl) (fun _ _ _ h => h) (by rfl) hS ?_ ?_; rotate_left; (focus (intro w hSw; (try dsimp only at hSw); (have f1 := hSw.1; have f2 := hSw.2; have f3 := hltI; have f4 := hltQ; have f5 := hlt2; have f6 := hltQ2; have f7 := hst2); go_simp; first | done | with_reducible rfl)); simp only [Act.put, List.setIfInBounds_toArray, List.set_cons_zero, List.set_cons_succ])
          (refine mv_val 3 (v := ?_) rfl (by kernel_rfl) (by kernel_rfl) (by kernel_rfl) (fun _ _ _ h => h) (by rfl) hS ?_ ?_; rotate_left; (focus (intro w hSw; (try dsimp only at hSw); (have f1 := hSw.1; have f2 := hSw.2; have f3 := hltI; have f4 := hltQ; have f5 := hlt2; have f6 := hltQ2; have f7 := hst2); go_simp; first | done | with_reducible rfl)); simp only [Act.put, List.setIfInBounds_toArray, List.set_cons_zero, List.set_cons_succ])
          (refine mv_val 4 (v := ?_) rfl (by kernel_rfl) (by kernel_rfl) (by kernel_rfl) (fun _ _ _ h => h) (by rfl) hS ?_ ?_; rotate_left; (focus (intro w hSw; (try dsimp only at hSw); (have f1 := hSw.1; have f2 := hSw.2; have f3 := hltI; have f4 := hltQ; have f5 := hlt2; have f6 := hltQ2; have f7 := hst2); go_simp; first | done | with_reducible rfl)); simp only [Act.put, List.setIfInBounds_toArray, List.set_cons_zero, List.set_cons_succ])
          (refine mv_val 5 (v := ?_) rfl (by kernel_rfl) (by kernel_rfl) (by kernel_rfl) (fun _ _ _ h => h) (by rfl) hS ?_ ?_; rotate_left; (focus (intro w hSw; (try dsimp only at hSw); (have f1 := hSw.1; have f2 := hSw.2; have f3 := hltI; have f4 := hltQ; have f5 := hlt2; have f6 := hltQ2; have f7 := hst2); go_simp; first | done | with_reducible rfl)); simp only [Act.put, List.setIfInBounds_toArray, List.set_cons_zero, List.set_cons_succ])
          (refine mv_val 6 (v := ?_) rfl (by kernel_rfl) (by kernel_rfl) (by kernel_rfl) (fun _ _ _ h => h) (by rfl) hS ?_ ?_; rotate_left; (focus (intro w hSw; (try dsimp only at hSw); (have f1 := hSw.1; have f2 := hSw.2; have f3 := hltI; have f4 := hltQ; have f5 := hlt2; have f6 := hltQ2; have f7 := hst2); go_simp; first | done | with_reducible rfl)); simp only [Act.put, List.setIfInBounds_toArray, List.set_cons_zero, List.set_cons_succ])
          (refine mv_val 7 (v := ?_) rfl (by kernel_rfl) (by kernel_rfl) (by kernel_rfl) (fun _ _ _ h => h) (by rfl) hS ?_ ?_; rotate_left; (focus (intro w hSw; (try dsimp only at hSw); (have f1 := hSw.1; have f2 := hSw.2; have f3 := hltI; have f4 := hltQ; have f5 := hlt2; have f6 := hltQ2; have f7 := hst2); go_simp; first | done | with_reducible rfl)); simp only [Act.put, List.setIfInBounds_toArray, List.set_cons_zero, List.set_cons_succ])
          (refine mv_val 8 (v := ?_) rfl (by kernel_rfl) (by kernel_rfl) (by kernel_rfl) (fun _ _ _ h => h) (by rfl) hS ?_ ?_; rotate_left; (focus (intro w hSw; (try dsimp only at hSw); (have f1 := hSw.1; have f2 := hSw.2; have f3 := hltI; have f4 := hltQ; have f5 := hlt2; have f6 := hltQ2; have f7 := hst2); go_simp; first | done | with_reducible rfl)); simp only [Act.put, List.setIfInBounds_toArray, List.set_cons_zero, List.set_cons_succ])
          refine wpAnyH_done (by kernel_rfl) ?_ _
          go_wp2_with fail
          go_ret2
          exact retVE_err HE2.out hb10.drew
end Go.Proofs.Ythkpgjcnnfdibaa

/-! The walk of the reference's marks (layer 6). No condition but sizes. -/
namespace Go.Proofs.Ythkpgjcnnfdibaa
open Go.RowKit Go.Maps
set_option linter.unusedVariables false
set_option linter.unusedSimpArgs false

theorem truths_snoc (b : List UInt8) (k : Nat) : truthsOf b (k + 1) = truthsOf b k ++ [⟨1, if bitAt b k then 1 else 0, []⟩] := by
  unfold truthsOf
  rw [List.range_succ, List.map_append]; rfl
theorem truths_len (b : List UInt8) (k : Nat) : (truthsOf b k).length = k := by simp [truthsOf]

set_option maxHeartbeats 8000000 in
set_option maxRecDepth 100000 in
theorem rmarks_any (B : Nat) (t : UInt8) (ht : tyok t = true) (A : Option Addr) (c : Nat) (b : List UInt8) (n : Nat) (w : World) (hr : Rd w B A (cells b)) (hc : b.length ≤ c) (hB : B ≤ w.heap.size) (hn : n ≤ 65536) (hbl : b.length ≤ 4000000000) :
    Calls Try.prog 71 #[b8 t, .slice A b.length c, .int .i64 (n : Int)] w (RetVE w (cread t b n)) := by
  obtain ⟨by_, HEL, hby⟩ := El_val
  rcases (show t.toNat = 1 ∨ t.toNat = 2 ∨ t.toNat = 3 by unfold tyok at ht; simp at ht; omega) with h1 | h1 | h1
  · have hcr : cread t b n = (if tkE b n ≠ 0 then ([], tkE b n) else if size8 n < b.length then ([], 21) else (truthsOf b n, 0)) := by unfold cread; rw [if_pos h1]
    have T0 := rbits_any B A c b n w hr hB hn (by omega)
    have e1 : ((t.toNat : Int) == 1) = true := by simp; omega
    have htk : tkE b n = 0 → size8 n ≤ b.length := fun h => by
      unfold tkE at h
      split at h
      · simp at h
      · omega
    have HT := Lib.hid T0
    have HCR := Lib.hid hcr
    have HTK := Lib.hid htk
    have HT1 := Lib.hid h1
    obtain ⟨L, hL⟩ : ∃ L, L = b.length := ⟨_, rfl⟩
    rw [← hL] at HT hbl HTK HCR ⊢
    obtain ⟨kt, hkt⟩ : ∃ kt, kt = t.toNat := ⟨_, rfl⟩
    have hb8 : b8 t = .int .u8 (kt : Int) := by rw [hkt]
    rw [hb8]
    rw [← hkt] at e1 HT1
    clear T0 hcr htk h1 hL hkt hb8 hc
    go_enter Try.func71, Try.ntmps71
    go_wp2_with fail
    refine HT.out.mono ?_
    rintro e w1 (⟨he, rfl, hb1⟩ | ⟨he, A1, c1, rfl, hown1, hb1⟩)
    · have hE : cread t b n = ([], tkE b n) := by rw [HCR.out, if_pos he]
      obtain ⟨x, hx⟩ : ∃ x, x = tkE b n := ⟨_, rfl⟩
      rw [← hx] at hE he ⊢
      have HE := Lib.hid hE
      have heI : ((x : Int) != 0) = true := by simp; omega
      clear hE he hx
      go_wp2_with fail
      go_ret2
      exact retVE_err HE.out hb1
    have hsl := HTK.out he
    by_cases hbl2 : size8 n < L
    · have hE : cread t b n = ([], 21) := by rw [HCR.out, if_neg (by simpa using he), if_pos hbl2]
      have HE := Lib.hid hE
      obtain ⟨s8, hs8⟩ : ∃ s, s = size8 n := ⟨_, rfl⟩
      rw [← hs8] at hsl hbl2 ⊢
      have hI : ((s8 : Int) != (L : Int)) = true := by simp; omega
      clear hE he hs8
      go_wp2_with fail
      go_ret2
      exact retVE_err HE.out hb1
    have hE : cread t b n = (truthsOf b n, 0) := by rw [HCR.out, if_neg (by simpa using he), if_neg hbl2]
    have HE := Lib.hid hE
    obtain ⟨s8, hs8⟩ : ∃ s, s = size8 n := ⟨_, rfl⟩
    rw [← hs8] at hsl hbl2 ⊢
    have hI : ((s8 : Int) != (L : Int)) = false := by simp; omega
    have hrb := rd_own hown1
    clear hE he hs8 hown1
    go_wp2_with fail
    go_loopw [8, 12] (fun v8 v12 wr => ∃ k : Nat, k ≤ n ∧ v12 = .int .i64 k ∧ wr.ownsRow w1.heap.size 46 3 v8 k (vcells (truthsOf b k)) ∧ Below w1.heap.size w1 wr) (fun _ v12 _ => n - (intOf v12).toNat)
    case atStart => exact ⟨0, by omega, rfl, World.ownsRow_nil _ _ _ _, Below.refl _ _⟩
    case round =>
      obtain ⟨k, hk, rfl, hown, hbel⟩ := hrel
      have hzr := hbel.size
      by_cases hlt : k < n
      case neg =>
        have hkn : k = n := by omega
        have hge : (n : Int) ≤ (k : Int) := by omega
        have hown3 := own_lower hown hb1.size
        rw [hkn] at hown3
        have hown4 : wr.ownsRow w.heap.size 46 3 u8 (truthsOf b n).length (vcells (truthsOf b n)) := by rw [truths_len]; exact hown3
        clear hkn hown hown3
        go_wp2_with fail
        go_ret2
        exact retVE_ok HE.out hown4 (hb1.trans (hbel.mono hb1.size))
      have hkI : (k : Int) < (n : Int) := by omega
      obtain ⟨bb, oo, rfl, hbb, hcell⟩ := hrb.at (k := k) (by simp [blN_len]; exact hlt)
      have hck0 := hcell k (.bool (bitAt b k)) (by rw [List.getElem?_map, blN_get hlt]; rfl)
      have hck := (hbel.cell (p := ⟨bb, oo + k, none⟩) hbb).trans hck0
      have hts := truths_snoc b k
      obtain ⟨bi, hbi⟩ : ∃ x, x = bitAt b k := ⟨_, rfl⟩
      rw [← hbi] at hck hts
      have HTS := Lib.hid hts
      have hne : bb ≠ wr.heap.size := by omega
      have hbbr : bb < wr.heap.size := by omega
      clear hcell hck0 hbi hts
      cases bi
      · have hnx : vcells (truthsOf b (k + 1)) = vcells (truthsOf b k) ++ cv ⟨kt, 0, []⟩ := by rw [HTS.out, vcells_snoc, HT1.out]; rfl
        have HNX := Lib.hid hnx
        clear hnx
        go_wp2_with (at_builtin; refine wpList_app HEL rfl _ _ rfl ((hown.alloc _).alloc _) rfl rfl (by exact cv_three (⟨kt, 0, []⟩ : V) (World.size_alloc _ _).symm) rfl (cv_one _) (by unfold maxLen; omega) (by have : (k + 1) * by_ ≤ 65537 * 64 := Nat.mul_le_mul (by omega) hby; omega) (by simp; omega) ?_; intro v4 w4 hown4 hg4 _)
        have hb4 : Below w1.heap.size w1 w4 := ((hbel.alloc hzr _).alloc (by simp; omega) _).trans (own_below ((hown.alloc _).alloc _) hg4 (by simp; omega))
        go_roundw
        case rel => exact ⟨k + 1, by omega, by go_num, by rw [HNX.out]; exact hown4, hb4⟩
        case measure => simp [intOf]; omega
      · have hnx : vcells (truthsOf b (k + 1)) = vcells (truthsOf b k) ++ cv ⟨kt, 1, []⟩ := by rw [HTS.out, vcells_snoc, HT1.out]; rfl
        have HNX := Lib.hid hnx
        clear hnx
        go_wp2_with (at_builtin; refine wpList_app HEL rfl _ _ rfl ((hown.alloc _).alloc _) rfl rfl (by exact cv_three (⟨kt, 1, []⟩ : V) (World.size_alloc _ _).symm) rfl (cv_one _) (by unfold maxLen; omega) (by have : (k + 1) * by_ ≤ 65537 * 64 := Nat.mul_le_mul (by omega) hby; omega) (by simp; omega) ?_; intro v4 w4 hown4 hg4 _)
        have hb4 : Below w1.heap.size w1 w4 := ((hbel.alloc hzr _).alloc (by simp; omega) _).trans (own_below ((hown.alloc _).alloc _) hg4 (by simp; omega))
        go_roundw
        case rel => exact ⟨k + 1, by omega, by go_num, by rw [HNX.out]; exact hown4, hb4⟩
        case measure => simp [intOf]; omega
  · have e1 : ((t.toNat : Int) == 1) = false := by simp; omega
    have e2 : ((t.toNat : Int) == 2) = true := by simp; omega
    have hcr : cread t b n = (if (In.iget b n).2 ≠ 0 then ([], (In.iget b n).2) else ((In.iget b n).1.map fun v => ⟨2, v, []⟩, 0)) := by unfold cread; rw [if_neg (by omega), if_pos h1]
    have G0 := In.rGet_ints B A c b (n : Int) w hr hB hc (by omega) (by unfold In.i64; omega)
    have hlen := fun h => (In.iput_iget b (n : Int) h).2.2.1
    generalize In.iget b (n : Int) = x at *
    obtain ⟨zs, er⟩ := x
    dsimp only at hcr hlen
    have HG := Lib.hid G0
    have HCR := Lib.hid hcr
    have HLEN := Lib.hid hlen
    have HT1 := Lib.hid h1
    obtain ⟨kt, hkt⟩ : ∃ kt, kt = t.toNat := ⟨_, rfl⟩
    have hb8 : b8 t = .int .u8 (kt : Int) := by rw [hkt]
    rw [hb8]
    rw [← hkt] at e1 e2 HT1
    clear G0 hcr hlen h1 hkt hb8 hc
    go_enter Try.func71, Try.ntmps71
    go_wp2_with fail
    refine HG.out.mono ?_; rintro e w1 ⟨A1, c1, rfl, hown1, hb1⟩
    dsimp only at hown1 ⊢
    by_cases her : er = 0
    case neg =>
      have hE : cread t b n = ([], er) := by rw [HCR.out, if_pos her]
      have HE := Lib.hid hE
      have heI : ((er : Int) != 0) = true := by simp; omega
      clear hE her
      go_wp2_with fail
      go_ret2
      exact retVE_err HE.out hb1
    have hE : cread t b n = (zs.map (fun v => ⟨2, v, []⟩), 0) := by rw [HCR.out, if_neg (by simpa using her)]
    have HE := Lib.hid hE
    have hzn : zs.length = n := by have := HLEN.out her; omega
    have HZN := Lib.hid hzn
    have heI : ((er : Int) != 0) = false := by simp; omega
    have hrz := rd_own hown1
    rw [hzn]
    clear hE her hown1 hzn
    go_wp2_with fail
    go_loopw [8, 16] (fun v8 v16 wr => ∃ k : Nat, k ≤ n ∧ v16 = .int .i64 k ∧ wr.ownsRow w1.heap.size 46 3 v8 k (vcells ((zs.take k).map fun v => ⟨2, v, []⟩)) ∧ Below w1.heap.size w1 wr) (fun _ v16 _ => n - (intOf v16).toNat)
    case atStart => exact ⟨0, by omega, rfl, World.ownsRow_nil _ _ _ _, Below.refl _ _⟩
    case round =>
      obtain ⟨k, hk, rfl, hown, hbel⟩ := hrel
      by_cases hlt : k < n
      case neg =>
        have hkk : k = n := by omega
        have hge : (n : Int) ≤ (k : Int) := by omega
        rw [hkk, ← HZN.out, List.take_length, HZN.out] at hown
        have hown3 := own_lower hown hb1.size
        have hown4 : wr.ownsRow w.heap.size 46 3 u8 (zs.map fun v => (⟨2, v, []⟩ : V)).length (vcells (zs.map fun v => (⟨2, v, []⟩ : V))) := by rw [List.length_map, HZN.out]; exact hown3
        clear hkk hown hown3
        go_wp2_with fail
        go_ret2
        exact retVE_ok HE.out hown4 (hb1.trans (hbel.mono hb1.size))
      obtain ⟨z, hz⟩ : ∃ z, zs[k]? = some z := ⟨_, List.getElem?_eq_getElem (by rw [HZN.out]; exact hlt)⟩
      obtain ⟨bb, oo, rfl, hbb, hcell⟩ := hrz.at (k := k) (by rw [List.length_map, HZN.out]; exact hlt)
      have hck := (hbel.cell (p := ⟨bb, oo + k, none⟩) hbb).trans (hcell k (.int .i64 z) (by rw [List.getElem?_map, hz]; rfl))
      have hkI : (k : Int) < (n : Int) := by omega
      have hnx : vcells ((zs.take (k + 1)).map fun v => (⟨2, v, []⟩ : V)) = vcells ((zs.take k).map fun v => ⟨2, v, []⟩) ++ cv ⟨kt, z, []⟩ := by rw [List.take_add_one, hz, List.map_append, vcells_append, HT1.out]; simp [vcells]
      have HNX := Lib.hid hnx
      clear hz hcell hnx
      go_wp2_with (at_builtin; refine wpList_app HEL rfl _ _ rfl (hown.alloc _) rfl rfl (cv_three (⟨kt, z, []⟩ : V) rfl) rfl (cv_one _) (by unfold maxLen; omega) (by have : (k + 1) * by_ ≤ 65537 * 64 := Nat.mul_le_mul (by omega) hby; omega) (by have := hbel.size; simp; omega) ?_; intro v4 w4 hown4 hg4 ho4)
      have hb4 : Below w1.heap.size w1 w4 := (hbel.alloc hbel.size _).trans (own_below (hown.alloc _) hg4 (by have := hbel.size; simp; omega))
      go_roundw
      case rel => exact ⟨k + 1, by omega, by go_num, by rw [HNX.out]; exact hown4, hb4⟩
      case measure => simp [intOf]; omega
  · have e1 : ((t.toNat : Int) == 1) = false := by simp; omega
    have e2 : ((t.toNat : Int) == 2) = false := by simp; omega
    have hcr : cread t b n = tget b n := by unfold cread; rw [if_neg (by omega), if_neg (by omega)]
    rw [hcr]
    have HR := Lib.hid (rread_any B A c b n w hr hc hB hn hbl)
    clear hcr
    go_enter Try.func71, Try.ntmps71
    go_wp2_with fail
    refine HR.out.mono ?_; rintro e w1 ⟨A1, c1, rfl, hown1, hb1⟩
    go_wp2_with fail
    go_ret2
    exact ⟨A1, c1, rfl, hown1, hb1⟩
end Go.Proofs.Ythkpgjcnnfdibaa

/-! The walk of the reference's Get (layer 6). No condition but sizes. -/
namespace Go.Proofs.Ythkpgjcnnfdibaa
open Go.RowKit Go.Maps
set_option linter.unusedVariables false
set_option linter.unusedSimpArgs false

set_option maxHeartbeats 8000000 in
set_option maxRecDepth 100000 in
theorem rcget_any (B : Nat) (A : Option Addr) (c : Nat) (t : UInt8) (b : List UInt8) (n : Int) (w : World) (hr : Rd w B A (cells b)) (hc : b.length ≤ c) (hB : B ≤ w.heap.size) (hn63 : i64r n) (hb : b.length ≤ 4000000000) :
    Calls Try.prog 41 #[b8 t, .slice A b.length c, .int .i64 n] w (RetVE w (cget t b n)) := by
  have ht256 := t.toNat_lt
  by_cases hno : tyok t = false ∨ n < 0 ∨ 65536 < n
  · have hE : cget t b n = ([], 1) := by unfold cget; rw [if_pos hno]
    have HE := Lib.hid hE
    clear hE
    have fin : ∀ (a1 a2 : Bool), decide ((t.toNat : Int) < 1) = a1 → decide ((3 : Int) < (t.toNat : Int)) = a2 → Calls Try.prog 41 #[b8 t, .slice A b.length c, .int .i64 n] w (RetVE w (cget t b n)) := by
      intro a1 a2 h1 h2
      by_cases hn0 : n < 0
      · have h3 : decide (n < 0) = true := decide_eq_true hn0
        clear hno
        cases a1 <;> cases a2 <;> (
          go_enter Try.func41, Try.ntmps41
          go_wp2_with fail
          go_ret2
          exact retVE_err HE.out (Below.refl _ _))
      · have h3 : decide (n < 0) = false := decide_eq_false hn0
        by_cases hn6 : 65536 < n
        · have h4 : decide (65536 < n) = true := decide_eq_true hn6
          clear hno
          cases a1 <;> cases a2 <;> (
            go_enter Try.func41, Try.ntmps41
            go_wp2_with fail
            go_ret2
            exact retVE_err HE.out (Below.refl _ _))
        · have h4 : decide (65536 < n) = false := decide_eq_false hn6
          have ht : a1 = true ∨ a2 = true := by
            rcases hno with h | h | h
            · unfold tyok at h
              simp only [Bool.or_eq_false_iff, decide_eq_false_iff_not] at h
              rw [← h1, ← h2]
              simp only [decide_eq_true_eq]
              omega
            · exact absurd h hn0
            · exact absurd h hn6
          clear hno
          cases a1 <;> cases a2 <;> first
            | (rcases ht with h | h <;> cases h; done)
            | (clear ht
               go_enter Try.func41, Try.ntmps41
               go_wp2_with fail
               go_ret2
               exact retVE_err HE.out (Below.refl _ _))
    exact fin _ _ rfl rfl
  have hty : tyok t = true := by
    cases h : tyok t
    · exact absurd (.inl h) hno
    · rfl
  obtain ⟨k, rfl⟩ : ∃ k : Nat, n = k := ⟨n.toNat, by omega⟩
  have hk : k ≤ 65536 := by omega
  have hcg : cget t b k = if tkE b k ≠ 0 then ([], tkE b k) else if (cread t (b.drop (size8 k)) (zeros b k)).2 ≠ 0 then ([], (cread t (b.drop (size8 k)) (zeros b k)).2) else (merge b 0 k (cread t (b.drop (size8 k)) (zeros b k)).1, 0) := by
    unfold cget
    rw [if_neg hno]
    simp only [Int.toNat_natCast]
  have HCG := Lib.hid hcg
  have hI1 : decide ((t.toNat : Int) < 1) = false := by unfold tyok at hty; simp at hty; exact decide_eq_false (by omega)
  have hI3 : decide ((3 : Int) < (t.toNat : Int)) = false := by unfold tyok at hty; simp at hty; exact decide_eq_false (by omega)
  have hI0 : decide ((k : Int) < 0) = false := decide_eq_false (by omega)
  have hI6 : decide ((65536 : Int) < (k : Int)) = false := decide_eq_false (by omega)
  have HT := Lib.hid (rbits_any B A c b k w hr hB hk (by omega))
  have HTY := Lib.hid hty
  have htk : tkE b k = 0 → size8 k ≤ b.length := fun h => by
    unfold tkE at h
    split at h
    · simp at h
    · omega
  have HTK := Lib.hid htk
  obtain ⟨by_, HEL, hby⟩ := El_val
  clear hcg hno hty htk
  go_enter Try.func41, Try.ntmps41
  go_wp2_with fail
  refine HT.out.mono ?_
  rintro e w4 (⟨hne, rfl, hb4⟩ | ⟨heq, A4, c4, rfl, hown4, hb4⟩)
  · have hE : cget t b k = ([], tkE b k) := by rw [HCG.out, if_pos hne]
    have HE := Lib.hid hE
    obtain ⟨x, hx⟩ : ∃ x, x = tkE b k := ⟨_, rfl⟩
    rw [← hx] at hne HE ⊢
    have hneI : ((x : Int) != 0) = true := by simp; omega
    clear hE hne hx
    go_wp2_with fail
    go_ret2
    exact retVE_err HE.out hb4
  have hsl := HTK.out heq
  have hcg2 : cget t b k = if (cread t (b.drop (size8 k)) (zeros b k)).2 ≠ 0 then ([], (cread t (b.drop (size8 k)) (zeros b k)).2) else (merge b 0 k (cread t (b.drop (size8 k)) (zeros b k)).1, 0) := by rw [HCG.out, if_neg (by simpa using heq)]
  have hz04 := hb4.size
  have hrb := rd_own hown4
  obtain ⟨A5, c5, hs5, hrd5, hc5⟩ := from_any c (size8 k) hsl hc (hr.below (hb4.mono hB))
  have hcrl := @cread_len t (b.drop (size8 k)) (zeros b k)
  have hzl := zeros_le b k
  have M0 := rmarks_any B t HTY.out A5 c5 (b.drop (size8 k)) (zeros b k) w4 hrd5 hc5 (by omega) (by omega) (by rw [List.length_drop]; omega)
  obtain ⟨s8, hs8⟩ : ∃ s, s = size8 k := ⟨_, rfl⟩
  rw [← hs8] at hs5 M0 hcg2 hcrl hsl ⊢
  rw [List.length_drop] at hs5 M0
  have hsl5 := fun w' => hs5 w' (s8 : Int) rfl
  obtain ⟨z, hz⟩ : ∃ z, z = zeros b k := ⟨_, rfl⟩
  rw [← hz] at M0 hcg2 hcrl hzl
  generalize cread t (b.drop s8) z = x at *
  obtain ⟨lm, er⟩ := x
  dsimp only at hcg2 hcrl
  have HM := Lib.hid M0
  have HCG2 := Lib.hid hcg2
  have HCRL := Lib.hid hcrl
  have HZ := Lib.hid hz
  clear hcg2 heq M0 hcrl hz hs5 hrd5 hc5 hown4 hs8 HCG HT
  go_wp2_with fail
  go_loopw [11, 12] (fun v11 v12 wr => ∃ j : Nat, j ≤ k ∧ v12 = .int .i64 j ∧ v11 = .int .i64 (zeros b j : Nat) ∧ w4 = wr) (fun _ v12 _ => k - (intOf v12).toNat)
  case atStart => exact ⟨0, by omega, rfl, rfl, rfl⟩
  case round =>
    obtain ⟨j, hj, rfl, rfl, rfl⟩ := hrel
    by_cases hlt : j < k
    case pos =>
      have hltI : (j : Int) < (k : Int) := by omega
      obtain ⟨bb, oo, rfl, hbb, hcell⟩ := hrb.at (k := j) (by simp [bools, blN_len]; omega)
      obtain ⟨bi, hbi⟩ : ∃ x, x = bitAt b j := ⟨_, rfl⟩
      have hck := hcell j (.bool bi) (by rw [hbi]; simp [bools, blN, hlt])
      have hzs := zeros_snoc b j
      have hzl := zeros_le b j
      rw [← hbi] at hzs
      have HZS := Lib.hid hzs
      clear hcell hbi hzs
      cases bi
      · go_wp2_with fail
        go_roundw
        case rel => exact ⟨j + 1, by omega, by go_num, by rw [HZS.out]; go_num, by trivial⟩
        case measure => simp [intOf]; omega
      · go_wp2_with fail
        go_roundw
        case rel => exact ⟨j + 1, by omega, by go_num, by rw [HZS.out]; rfl, by trivial⟩
        case measure => simp [intOf]; omega
    have hjk : j = k := by omega
    subst hjk
    have hgeI : ¬ ((j : Int) < (j : Int)) := by omega
    rw [← HZ.out]
    clear hlt
    go_wp2_with fail
    refine HM.out.mono ?_; rintro e w5 ⟨A6, c6, rfl, hown5, hb5⟩
    dsimp only at hown5
    dsimp only
    have hb05 : Below w.heap.size w w5 := hb4.trans (hb5.mono hz04)
    have hz05 := hb05.size
    by_cases her : er = 0
    case neg =>
      have hE : cget t b j = ([], er) := by rw [HCG2.out, if_pos her]
      have HE := Lib.hid hE
      have herI : ((er : Int) != 0) = true := by simp; omega
      clear hE her
      go_wp2_with fail
      go_ret2
      exact retVE_err HE.out hb05
    have hE : cget t b j = (merge b 0 j lm, 0) := by rw [HCG2.out, if_neg (by simpa using her)]
    have hll := HCRL.out her
    have HE := Lib.hid hE
    have HLL := Lib.hid hll
    have herI : ((er : Int) != 0) = false := by simp; omega
    have hrd5 := rd_own hown5
    have hrb5 := (hrb.below hb5).more hb5.size
    have hc6 : lm.length ≤ c6 := own_le hown5
    clear hE her hll hown5 hsl5
    go_wp2_with fail
    obtain ⟨wo, hwo⟩ : ∃ wo, wo = w4 := ⟨_, rfl⟩
    go_loopw [13, 14, 15] (fun v13 v14 v15 wr => ∃ (i m : Nat) (acc lr : List V) (A7 : Option Addr) (c7 : Nat), i ≤ j ∧ v15 = .int .i64 i ∧ acc.length = i ∧ v13 = .slice A7 m c7 ∧ m = lr.length ∧ m ≤ c7 ∧ Rd wr w5.heap.size A7 (vcells lr) ∧ m + zeros b i = z ∧ acc ++ merge b i (j - i) lr = merge b 0 j lm ∧
        wr.ownsRow w5.heap.size 46 3 v14 i (vcells acc) ∧ Below w5.heap.size w5 wr) (fun _ _ v15 _ => j - (intOf v15).toNat)
    case atStart =>
      exact ⟨0, lm.length, [], lm, A6, c6, by omega, rfl, rfl, rfl, rfl, hc6, hrd5, by rw [HLL.out]; rfl, rfl, World.ownsRow_nil _ _ _ _, Below.refl _ _⟩
    case round =>
      clear hrd5 hc6
      obtain ⟨i, m, acc, lr, A7, c7, hi, rfl, hacc, rfl, hm, hmc, hrd, hmz, hmer, hown, hbel⟩ := hrel
      have hzr := hbel.size
      have HM2 := Lib.hid hm
      have HACC := Lib.hid hacc
      have HMZ := Lib.hid hmz
      have HMER := Lib.hid hmer
      have hb0r : Below w.heap.size w wr := hb05.trans (hbel.mono hz05)
      clear hm hacc hmz hmer
      by_cases hlt : i < j
      case neg =>
        have hij : i = j := by omega
        have hgeI : ¬ ((i : Int) < (j : Int)) := by omega
        have hfin : acc = merge b 0 j lm := by
          have h := HMER.out
          rw [hij, Nat.sub_self] at h
          rw [← h]; simp [merge]
        have hown2 : wr.ownsRow w.heap.size 46 3 u14 (merge b 0 j lm).length (vcells (merge b 0 j lm)) := by
          have h := own_lower hown hz05
          rw [hfin, hij] at h
          rw [merge_len]; exact h
        have HO := Lib.hid hown2
        clear hij hfin hown2
        go_wp2_with fail
        go_ret2
        exact retVE_ok HE.out HO.out hb0r
      have hltI : (i : Int) < (j : Int) := by omega
      obtain ⟨bb, oo, rfl, hbb, hcell⟩ := hrb5.at (k := i) (by simp [bools, blN_len]; omega)
      have hck0 := hcell i (.bool (bitAt b i)) (by rw [List.getElem?_map, blN_get hlt]; rfl)
      have hck := (hbel.cell (p := ⟨bb, oo + i, none⟩) hbb).trans hck0
      obtain ⟨bi, hbi⟩ : ∃ x, x = bitAt b i := ⟨_, rfl⟩
      rw [← hbi] at hck
      have HBI := Lib.hid hbi
      have hji : j - i = (j - (i + 1)) + 1 := by omega
      have HJI := Lib.hid hji
      have hzs := zeros_snoc b i
      rw [← hbi] at hzs
      have hzm := zeros_mono b (show i + 1 ≤ j by omega)
      have HZS := Lib.hid hzs
      have HZM := Lib.hid hzm
      clear hcell hck0 hbi hji hzs hzm
      cases bi
      case true =>
        go_wp2_with (at_builtin; refine wpList_app HEL rfl _ _ rfl (hown.alloc _) rfl rfl (cv_three null rfl) rfl (cv_one _) (by unfold maxLen; omega) (by have : (i + 1) * by_ ≤ 65537 * 64 := Nat.mul_le_mul (by omega) hby; omega) (by simp; omega) ?_; intro v8 w8 hown8 hg8 ho8)
        have hb8 : Below w5.heap.size w5 w8 := (hbel.alloc hzr _).trans (own_below (hown.alloc _) hg8 (by simp; omega))
        have hb8r : Below w5.heap.size wr w8 := ((Below.refl _ _).alloc hzr _).trans (own_below (hown.alloc _) hg8 (by simp; omega))
        go_roundw
        case rel =>
          refine ⟨i + 1, m, acc ++ [null], lr, A7, c7, by omega, by go_num, by simp [HACC.out], rfl, HM2.out, hmc, hrd.below hb8r, ?_, ?_, ?_, hb8⟩
          · rw [HZS.out]; exact HMZ.out
          · rw [← HMER.out, HJI.out, merge_null HBI.out.symm, List.append_assoc]; rfl
          · rw [vcells_snoc]; exact hown8
        case measure => simp [intOf]; omega
      have hm1 : 1 ≤ m := by
        have h1 := HZS.out
        have h2 := HZM.out
        have h3 := HMZ.out
        rw [← HZ.out] at h2
        simp at h1
        omega
      obtain ⟨v, lr', hlr⟩ : ∃ v lr', lr = v :: lr' := by
        rcases lr with _ | ⟨v, lr'⟩
        · have := HM2.out; simp at this; omega
        · exact ⟨v, lr', rfl⟩
      subst hlr
      obtain ⟨bv, ov, rfl, hbv, e0, e1, e2⟩ := rd_val hrd (i := 0) (v := v) rfl
      rw [Nat.zero_mul, Nat.add_zero] at e0 e1 e2
      have hsl := fun w' => from_vals (some ⟨bv, ov, none⟩) m c7 1 hm1 w' (1 : Int) rfl
      have hrd8 := hrd.cut 3 (c7 = 1) (fun e => by have := HM2.out; rw [vcells_length]; omega)
      rw [show (vcells (v :: lr')).drop 3 = vcells lr' from rfl] at hrd8
      obtain ⟨A8, hA8⟩ : ∃ A8, A8 = (if c7 = 1 then some (⟨bv, ov, none⟩ : Addr) else (some (⟨bv, ov, none⟩ : Addr)).map (·.add (1 * 3))) := ⟨_, rfl⟩
      have hrd9 : Rd wr w5.heap.size A8 (vcells lr') := by rw [hA8]; exact hrd8
      rw [← hA8] at hsl
      have hm1I : (0 : Int) < (m : Int) := by omega
      have hm10 : 0 < m := by omega
      have hlm : m - 1 = lr'.length := by have := HM2.out; simp at this; omega
      have HLM := Lib.hid hlm
      clear hrd8 hA8 hlm
      go_wp2_with (at_builtin; refine wpList_app HEL rfl _ _ rfl (hown.alloc _) rfl rfl (cv_three v rfl) rfl (cv_one _) (by unfold maxLen; omega) (by have : (i + 1) * by_ ≤ 65537 * 64 := Nat.mul_le_mul (by omega) hby; omega) (by simp; omega) ?_; intro v8 w8 hown8 hg8 ho8)
      have hb8 : Below w5.heap.size w5 w8 := (hbel.alloc hzr _).trans (own_below (hown.alloc _) hg8 (by simp; omega))
      have hb8r : Below w5.heap.size wr w8 := ((Below.refl _ _).alloc hzr _).trans (own_below (hown.alloc _) hg8 (by simp; omega))
      go_roundw
      case rel =>
        refine ⟨i + 1, m - 1, acc ++ [v], lr', A8, c7 - 1, by omega, by go_num, by simp [HACC.out], rfl, HLM.out, by omega, hrd9.below hb8r, ?_, ?_, ?_, hb8⟩
        · rw [HZS.out]
          have := HMZ.out
          simp; omega
        · rw [← HMER.out, HJI.out, merge_mark HBI.out.symm, List.append_assoc]; rfl
        · rw [vcells_snoc]; exact hown8
      case measure => simp [intOf]; omega
end Go.Proofs.Ythkpgjcnnfdibaa

/- The walk of the reference's marks (layer 6). No condition but sizes. -/
import Derived.Test.YtiijnfakphhbeaaCR6
namespace Go.Proofs.Ytiijnfakphhbeaa
open Go.RowKit Go.Maps
set_option linter.unusedVariables false
set_option linter.unusedSimpArgs false

theorem truths_snoc (b : List UInt8) (k : Nat) : truthsOf b (k + 1) = truthsOf b k ++ [⟨1, if bitAt b k then 1 else 0, []⟩] := by
  unfold truthsOf
  rw [List.range_succ, List.map_append]; rfl
theorem truths_len (b : List UInt8) (k : Nat) : (truthsOf b k).length = k := by simp [truthsOf]

set_option maxHeartbeats 8000000 in
set_option maxRecDepth 100000 in
theorem rmarks_any (B : Nat) (t : UInt8) (ht : tyok t = true) (A : Option Addr) (c : Nat) (b : List UInt8) (n : Nat) (w : World) (hr : Rd w B A (cells b)) (hc : b.length ≤ c) (hB : B ≤ w.heap.size) (hn : n ≤ 65536) (hbl : b.length ≤ 4000000000) :
    Calls Try.prog 37 #[b8 t, .slice A b.length c, .int .i64 (n : Int)] w (RetVE w (cread t b n)) := by
  obtain ⟨by_, HEL, hby⟩ := El_val
  rcases (show t.toNat = 1 ∨ t.toNat = 2 ∨ t.toNat = 3 by unfold tyok at ht; simp at ht; omega) with h1 | h1 | h1
  · have hcr : cread t b n = (if tkE b n ≠ 0 then ([], tkE b n) else if size8 n < b.length then ([], 21) else (truthsOf b n, 0)) := by unfold cread; rw [if_pos h1]
    have T0 := rbits_any B A c b n w hr hB hn (by omega)
    have e1 : ((t.toNat : Int) == 1) = true := by simp; omega
    have htk : tkE b n = 0 → size8 n ≤ b.length := fun h => by
      unfold tkE at h
      split at h
      · simp at h
      · omega
    have HT := Lib.hid T0
    have HCR := Lib.hid hcr
    have HTK := Lib.hid htk
    have HT1 := Lib.hid h1
    obtain ⟨L, hL⟩ : ∃ L, L = b.length := ⟨_, rfl⟩
    rw [← hL] at HT hbl HTK HCR ⊢
    obtain ⟨kt, hkt⟩ : ∃ kt, kt = t.toNat := ⟨_, rfl⟩
    have hb8 : b8 t = .int .u8 (kt : Int) := by rw [hkt]
    rw [hb8]
    rw [← hkt] at e1 HT1
    clear T0 hcr htk h1 hL hkt hb8 hc
    go_enter Try.func37, Try.ntmps37
    go_wp2_with fail
    refine HT.out.mono ?_
    rintro e w1 (⟨he, rfl, hb1⟩ | ⟨he, A1, c1, rfl, hown1, hb1⟩)
    · have hE : cread t b n = ([], tkE b n) := by rw [HCR.out, if_pos he]
      obtain ⟨x, hx⟩ : ∃ x, x = tkE b n := ⟨_, rfl⟩
      rw [← hx] at hE he ⊢
      have HE := Lib.hid hE
      have heI : ((x : Int) != 0) = true := by simp; omega
      clear hE he hx
      go_wp2_with fail
      go_ret2
      exact retVE_err HE.out hb1
    have hsl := HTK.out he
    by_cases hbl2 : size8 n < L
    · have hE : cread t b n = ([], 21) := by rw [HCR.out, if_neg (by simpa using he), if_pos hbl2]
      have HE := Lib.hid hE
      obtain ⟨s8, hs8⟩ : ∃ s, s = size8 n := ⟨_, rfl⟩
      rw [← hs8] at hsl hbl2 ⊢
      have hI : ((s8 : Int) != (L : Int)) = true := by simp; omega
      clear hE he hs8
      go_wp2_with fail
      go_ret2
      exact retVE_err HE.out hb1
    have hE : cread t b n = (truthsOf b n, 0) := by rw [HCR.out, if_neg (by simpa using he), if_neg hbl2]
    have HE := Lib.hid hE
    obtain ⟨s8, hs8⟩ : ∃ s, s = size8 n := ⟨_, rfl⟩
    rw [← hs8] at hsl hbl2 ⊢
    have hI : ((s8 : Int) != (L : Int)) = false := by simp; omega
    have hrb := rd_own hown1
    clear hE he hs8 hown1
    go_wp2_with fail
    go_loopw [8, 12] (fun v8 v12 wr => ∃ k : Nat, k ≤ n ∧ v12 = .int .i64 k ∧ wr.ownsRow w1.heap.size 38 3 v8 k (vcells (truthsOf b k)) ∧ Below w1.heap.size w1 wr) (fun _ v12 _ => n - (intOf v12).toNat)
    case atStart => exact ⟨0, by omega, rfl, World.ownsRow_nil _ _ _ _, Below.refl _ _⟩
    case round =>
      obtain ⟨k, hk, rfl, hown, hbel⟩ := hrel
      have hzr := hbel.size
      by_cases hlt : k < n
      case neg =>
        have hkn : k = n := by omega
        have hge : (n : Int) ≤ (k : Int) := by omega
        have hown3 := own_lower hown hb1.size
        rw [hkn] at hown3
        have hown4 : wr.ownsRow w.heap.size 38 3 u8 (truthsOf b n).length (vcells (truthsOf b n)) := by rw [truths_len]; exact hown3
        clear hkn hown hown3
        go_wp2_with fail
        go_ret2
        exact retVE_ok HE.out hown4 (hb1.trans (hbel.mono hb1.size))
      have hkI : (k : Int) < (n : Int) := by omega
      obtain ⟨bb, oo, rfl, hbb, hcell⟩ := hrb.at (k := k) (by simp [blN_len]; exact hlt)
      have hck0 := hcell k (.bool (bitAt b k)) (by rw [List.getElem?_map, blN_get hlt]; rfl)
      have hck := (hbel.cell (p := ⟨bb, oo + k, none⟩) hbb).trans hck0
      have hts := truths_snoc b k
      obtain ⟨bi, hbi⟩ : ∃ x, x = bitAt b k := ⟨_, rfl⟩
      rw [← hbi] at hck hts
      have HTS := Lib.hid hts
      have hne : bb ≠ wr.heap.size := by omega
      have hbbr : bb < wr.heap.size := by omega
      clear hcell hck0 hbi hts
      cases bi
      · have hnx : vcells (truthsOf b (k + 1)) = vcells (truthsOf b k) ++ cv ⟨kt, 0, []⟩ := by rw [HTS.out, vcells_snoc, HT1.out]; rfl
        have HNX := Lib.hid hnx
        clear hnx
        go_wp2_with (at_builtin; refine wpList_app HEL rfl _ _ rfl ((hown.alloc _).alloc _) rfl rfl (by exact cv_three (⟨kt, 0, []⟩ : V) (World.size_alloc _ _).symm) rfl (cv_one _) (by unfold maxLen; omega) (by have : (k + 1) * by_ ≤ 65537 * 64 := Nat.mul_le_mul (by omega) hby; omega) (by simp; omega) ?_; intro v4 w4 hown4 hg4 _)
        have hb4 : Below w1.heap.size w1 w4 := ((hbel.alloc hzr _).alloc (by simp; omega) _).trans (own_below ((hown.alloc _).alloc _) hg4 (by simp; omega))
        go_roundw
        case rel => exact ⟨k + 1, by omega, by go_num, by rw [HNX.out]; exact hown4, hb4⟩
        case measure => simp [intOf]; omega
      · have hnx : vcells (truthsOf b (k + 1)) = vcells (truthsOf b k) ++ cv ⟨kt, 1, []⟩ := by rw [HTS.out, vcells_snoc, HT1.out]; rfl
        have HNX := Lib.hid hnx
        clear hnx
        go_wp2_with (at_builtin; refine wpList_app HEL rfl _ _ rfl ((hown.alloc _).alloc _) rfl rfl (by exact cv_three (⟨kt, 1, []⟩ : V) (World.size_alloc _ _).symm) rfl (cv_one _) (by unfold maxLen; omega) (by have : (k + 1) * by_ ≤ 65537 * 64 := Nat.mul_le_mul (by omega) hby; omega) (by simp; omega) ?_; intro v4 w4 hown4 hg4 _)
        have hb4 : Below w1.heap.size w1 w4 := ((hbel.alloc hzr _).alloc (by simp; omega) _).trans (own_below ((hown.alloc _).alloc _) hg4 (by simp; omega))
        go_roundw
        case rel => exact ⟨k + 1, by omega, by go_num, by rw [HNX.out]; exact hown4, hb4⟩
        case measure => simp [intOf]; omega
  · have e1 : ((t.toNat : Int) == 1) = false := by simp; omega
    have e2 : ((t.toNat : Int) == 2) = true := by simp; omega
    have hcr : cread t b n = (if (In.iget b n).2 ≠ 0 then ([], (In.iget b n).2) else ((In.iget b n).1.map fun v => ⟨2, v, []⟩, 0)) := by unfold cread; rw [if_neg (by omega), if_pos h1]
    have G0 := In.rGet_ints B A c b (n : Int) w hr hB hc (by omega) (by unfold In.i64; omega)
    have hlen := fun h => (In.iput_iget b (n : Int) h).2.2.1
    generalize In.iget b (n : Int) = x at *
    obtain ⟨zs, er⟩ := x
    dsimp only at hcr hlen
    have HG := Lib.hid G0
    have HCR := Lib.hid hcr
    have HLEN := Lib.hid hlen
    have HT1 := Lib.hid h1
    obtain ⟨kt, hkt⟩ : ∃ kt, kt = t.toNat := ⟨_, rfl⟩
    have hb8 : b8 t = .int .u8 (kt : Int) := by rw [hkt]
    rw [hb8]
    rw [← hkt] at e1 e2 HT1
    clear G0 hcr hlen h1 hkt hb8 hc
    go_enter Try.func37, Try.ntmps37
    go_wp2_with fail
    refine HG.out.mono ?_; rintro e w1 ⟨A1, c1, rfl, hown1, hb1⟩
    dsimp only at hown1 ⊢
    by_cases her : er = 0
    case neg =>
      have hE : cread t b n = ([], er) := by rw [HCR.out, if_pos her]
      have HE := Lib.hid hE
      have heI : ((er : Int) != 0) = true := by simp; omega
      clear hE her
      go_wp2_with fail
      go_ret2
      exact retVE_err HE.out hb1
    have hE : cread t b n = (zs.map (fun v => ⟨2, v, []⟩), 0) := by rw [HCR.out, if_neg (by simpa using her)]
    have HE := Lib.hid hE
    have hzn : zs.length = n := by have := HLEN.out her; omega
    have HZN := Lib.hid hzn
    have heI : ((er : Int) != 0) = false := by simp; omega
    have hrz := rd_own hown1
    rw [hzn]
    clear hE her hown1 hzn
    go_wp2_with fail
    go_loopw [8, 16] (fun v8 v16 wr => ∃ k : Nat, k ≤ n ∧ v16 = .int .i64 k ∧ wr.ownsRow w1.heap.size 38 3 v8 k (vcells ((zs.take k).map fun v => ⟨2, v, []⟩)) ∧ Below w1.heap.size w1 wr) (fun _ v16 _ => n - (intOf v16).toNat)
    case atStart => exact ⟨0, by omega, rfl, World.ownsRow_nil _ _ _ _, Below.refl _ _⟩
    case round =>
      obtain ⟨k, hk, rfl, hown, hbel⟩ := hrel
      by_cases hlt : k < n
      case neg =>
        have hkk : k = n := by omega
        have hge : (n : Int) ≤ (k : Int) := by omega
        rw [hkk, ← HZN.out, List.take_length, HZN.out] at hown
        have hown3 := own_lower hown hb1.size
        have hown4 : wr.ownsRow w.heap.size 38 3 u8 (zs.map fun v => (⟨2, v, []⟩ : V)).length (vcells (zs.map fun v => (⟨2, v, []⟩ : V))) := by rw [List.length_map, HZN.out]; exact hown3
        clear hkk hown hown3
        go_wp2_with fail
        go_ret2
        exact retVE_ok HE.out hown4 (hb1.trans (hbel.mono hb1.size))
      obtain ⟨z, hz⟩ : ∃ z, zs[k]? = some z := ⟨_, List.getElem?_eq_getElem (by rw [HZN.out]; exact hlt)⟩
      obtain ⟨bb, oo, rfl, hbb, hcell⟩ := hrz.at (k := k) (by rw [List.length_map, HZN.out]; exact hlt)
      have hck := (hbel.cell (p := ⟨bb, oo + k, none⟩) hbb).trans (hcell k (.int .i64 z) (by rw [List.getElem?_map, hz]; rfl))
      have hkI : (k : Int) < (n : Int) := by omega
      have hnx : vcells ((zs.take (k + 1)).map fun v => (⟨2, v, []⟩ : V)) = vcells ((zs.take k).map fun v => ⟨2, v, []⟩) ++ cv ⟨kt, z, []⟩ := by rw [List.take_add_one, hz, List.map_append, vcells_append, HT1.out]; simp [vcells]
      have HNX := Lib.hid hnx
      clear hz hcell hnx
      go_wp2_with (at_builtin; refine wpList_app HEL rfl _ _ rfl (hown.alloc _) rfl rfl (cv_three (⟨kt, z, []⟩ : V) rfl) rfl (cv_one _) (by unfold maxLen; omega) (by have : (k + 1) * by_ ≤ 65537 * 64 := Nat.mul_le_mul (by omega) hby; omega) (by have := hbel.size; simp; omega) ?_; intro v4 w4 hown4 hg4 ho4)
      have hb4 : Below w1.heap.size w1 w4 := (hbel.alloc hbel.size _).trans (own_below (hown.alloc _) hg4 (by have := hbel.size; simp; omega))
      go_roundw
      case rel => exact ⟨k + 1, by omega, by go_num, by rw [HNX.out]; exact hown4, hb4⟩
      case measure => simp [intOf]; omega
  · have e1 : ((t.toNat : Int) == 1) = false := by simp; omega
    have e2 : ((t.toNat : Int) == 2) = false := by simp; omega
    have hcr : cread t b n = tget b n := by unfold cread; rw [if_neg (by omega), if_neg (by omega)]
    rw [hcr]
    have HR := Lib.hid (rread_any B A c b n w hr hc hB hn hbl)
    clear hcr
    go_enter Try.func37, Try.ntmps37
    go_wp2_with fail
    refine HR.out.mono ?_; rintro e w1 ⟨A1, c1, rfl, hown1, hb1⟩
    go_wp2_with fail
    go_ret2
    exact ⟨A1, c1, rfl, hown1, hb1⟩
end Go.Proofs.Ytiijnfakphhbeaa

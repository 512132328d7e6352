/- The walks of the reference's Out and In for sets (layer 10): they answer what the program's answer. For at most 10^8 spans. Printed by gen_sr7.py. -/
import Derived.Test.YtiohdacbnigpkaaSR6
namespace Go.Proofs.Ytiohdacbnigpkaa
open Go.RowKit Go.Maps
set_option linter.unusedVariables false
set_option linter.unusedSimpArgs false

set_option maxHeartbeats 2000000 in
set_option maxRecDepth 100000 in
theorem rOut10_any (B : Nat) (A : Option Addr) (c : Nat) (l : List S2) (n : Int) (w : World) (hr : Rd w B A (scells l)) (hB : B ≤ w.heap.size) (hl : l.length ≤ 100000000) :
    Calls Try.prog 23 #[.slice A l.length c, .int .i64 n] w (RetSE w (wholeR (oS n) n l)) := by
  obtain ⟨by_, HEL, hby⟩ := El_span
  have W0 := rwrong10_any B A c l n w hr hB (by omega)
  by_cases hz : wrgS n l = 0
  case neg =>
    have HR := Lib.hid (show wholeR (oS n) n l = ([], wrgS n l) by unfold wholeR; rw [if_neg hz])
    obtain ⟨z, hzz⟩ : ∃ z, z = wrgS n l := ⟨_, rfl⟩
    rw [← hzz] at W0 HR hz
    have HW := Lib.hid W0
    have hne : (z != 0) = true := by simp; exact hz
    clear W0 hzz hz
    go_enter Try.func23, Try.ntmps23
    go_wp2_with fail
    refine HW.out.mono ?_; rintro e w1 ⟨rfl, hb1⟩
    go_wp2_with fail
    go_ret2
    exact retSE_err HR.out hb1
  rw [hz] at W0
  have HW := Lib.hid W0
  have HR := Lib.hid (show wholeR (oS n) n l = (ofL (l.map (oS n)), 0) by unfold wholeR; rw [if_pos hz, ofL_map_full (g := oS n) (fun s h => oS_empty n h) l])
  have HG := Lib.hid (fun (s : S2) (hs : s ∈ l) w => rOut1_any hz hs w)
  clear hz
  clear W0
  go_enter Try.func23, Try.ntmps23
  go_wp2_with fail
  refine HW.out.mono ?_; rintro e w1 ⟨rfl, hb1⟩
  have hs1 := hb1.size
  obtain ⟨x, hx⟩ : ∃ x, x = l := ⟨_, rfl⟩
  subst hx
  have hrx : Rd w1 w1.heap.size A (scells x) := ((hr.below (hb1.mono hB))).more (by omega)
  have hb0 := hb1
  have hxl := hl
  clear hr
  go_wp2_with fail
  go_loopw [7, 8] (fun v7 v8 wr => ∃ k : Nat, k ≤ x.length ∧ v8 = .int .i64 k ∧ wr.ownsRow w1.heap.size 27 2 v7 (x.take k).length (scells ((x.take k).map (oS n))) ∧ Below w1.heap.size w1 wr) (fun _ v8 _ => x.length - (intOf v8).toNat)
  case atStart => exact ⟨0, by omega, rfl, World.ownsRow_nil _ _ _ _, Below.refl _ _⟩
  case round =>
    obtain ⟨k, hk, rfl, hown, hbel⟩ := hrel
    rw [show (x.take k).length = k by rw [List.length_take]; omega] at hown
    have hbw : Below w.heap.size w wr := hb0.trans (hbel.mono hb0.size)
    have hbz := hbw.size
    obtain ⟨A7, c7, rfl, hc7⟩ := own_form hown
    by_cases hlt : k < x.length
    case neg =>
      have hkk : k = x.length := by omega
      have hge : (x.length : Int) ≤ (k : Int) := by omega
      rw [hkk, List.take_length] at hown
      have hle : (x.map (oS n)).length = x.length := List.length_map _
      have HO := rOf_any wr.heap.size A7 c7 (x.map (oS n)) wr (by rw [← hkk] at hown; exact rd_own hown) (Nat.le_refl _) (by rw [hle]; exact hxl)
      rw [hle] at HO
      have HF := Lib.hid HO
      subst hkk
      clear HO hown hle
      obtain ⟨r, hR⟩ : ∃ r, r = ofL (x.map (oS n)) := ⟨_, rfl⟩
      rw [← hR] at HF
      have HRR := Lib.hid (HR.out.trans (by rw [← hR]))
      clear hR
      go_wp2_with fail
      refine HF.out.mono ?_; rintro e w4 ⟨A4, c4, rfl, hown4, hb4⟩
      have hown5 := own_lower hown4 hbz
      have hb5 := hbw.trans (hb4.mono hbz)
      clear hown4 hb4
      go_wp2_with fail
      go_ret2
      exact retSE_ok HRR.out hown5 hb5
    obtain ⟨s, hs⟩ : ∃ v, x[k]? = some v := ⟨_, List.getElem?_eq_getElem hlt⟩
    obtain ⟨gb, go, hgA, hgb, q0, q1⟩ := rd_span hrx hs
    subst hgA
    have r0 := (hbel.cell (p := ⟨gb, go + k * 2, none⟩) (by show gb < _; omega)).trans q0
    have r1 := (hbel.cell (p := ⟨gb, go + k * 2 + 1, none⟩) (by show gb < _; omega)).trans q1
    have hkI : (k : Int) < (x.length : Int) := by omega
    have O0 := fun w => HG.out s (List.mem_of_getElem? hs) w
    have hnx : (x.take (k + 1)).map (oS n) = (x.take k).map (oS n) ++ [oS n s] := by rw [List.take_add_one, hs, List.map_append]; rfl
    have hnl : (x.take (k + 1)).length = k + 1 := by rw [List.length_take]; omega
    have HNX := Lib.hid hnx
    have HNL := Lib.hid hnl
    obtain ⟨y, hy⟩ : ∃ y, y = oS n s := ⟨_, rfl⟩
    rw [← hy] at O0 HNX
    have HO := Lib.hid O0
    clear q0 q1 hs O0 hnx hnl hy
    go_wp2_with fail
    refine (HO.out _).mono ?_; rintro e w5 ⟨rfl, hb5⟩
    have hown5 := own_bel hown hb5
    have hb05 : Below w1.heap.size w1 w5 := hbel.trans (hb5.mono hbel.size)
    have hz5 := hb5.size
    clear hown hb5 r0 r1
    go_wp2_with (at_builtin; refine wpList_app HEL rfl _ _ rfl (hown5.alloc _) rfl rfl (sc_two y rfl) rfl (sc_one _) (by unfold maxLen; omega) (by have : (k + 1) * by_ ≤ 1000000001 * 64 := Nat.mul_le_mul (by omega) hby; omega) (by have := hb05.size; simp; omega) ?_; intro v6 w6 hown6 hg6 _)
    have hb6 : Below w1.heap.size w1 w6 := (hb05.alloc hb05.size _).trans (own_below (hown5.alloc _) hg6 (by have := hb05.size; simp; omega))
    go_roundw
    case rel => exact ⟨k + 1, by omega, by go_num, by rw [HNL.out, HNX.out, scells_snoc]; exact hown6, hb6⟩
    case measure => simp [intOf]; omega

set_option maxHeartbeats 2000000 in
set_option maxRecDepth 100000 in
theorem rIn10_any (B : Nat) (A : Option Addr) (c : Nat) (l : List S2) (n : Int) (w : World) (hr : Rd w B A (scells l)) (hB : B ≤ w.heap.size) (hl : l.length ≤ 100000000) :
    Calls Try.prog 24 #[.slice A l.length c, .int .i64 n] w (RetSE w (inR n l)) := by
  obtain ⟨by_, HEL, hby⟩ := El_span
  have W0 := rwrong10_any B A c l n w hr hB (by omega)
  by_cases hz : wrgS n l = 0
  case neg =>
    have HR := Lib.hid (show inR n l = ([], wrgS n l) by unfold inR; rw [if_neg hz])
    obtain ⟨z, hzz⟩ : ∃ z, z = wrgS n l := ⟨_, rfl⟩
    rw [← hzz] at W0 HR hz
    have HW := Lib.hid W0
    have hne : (z != 0) = true := by simp; exact hz
    clear W0 hzz hz
    go_enter Try.func24, Try.ntmps24
    go_wp2_with fail
    refine HW.out.mono ?_; rintro e w1 ⟨rfl, hb1⟩
    go_wp2_with fail
    go_ret2
    exact retSE_err HR.out hb1
  rw [hz] at W0
  have HW := Lib.hid W0
  have hz2 := wrgS_of hz
  have HR0 := show inR n l = (ofL ((ofL l).map (iS n)), 0) by unfold inR; rw [if_pos hz]
  have HOF := Lib.hid (fun w' (h : Below w.heap.size w w') => rOf_any B A c l w' (hr.below (h.mono hB)) (by have := h.size; omega) hl)
  have hol := ofL_len l
  obtain ⟨x, hx⟩ : ∃ x, x = ofL l := ⟨_, rfl⟩
  rw [← hx] at hz2 HR0 HOF hol
  have HR := Lib.hid HR0
  have HG := Lib.hid (fun (s : S2) (hs : s ∈ x) w => rIn1_any hz2 hs w)
  have hxl : x.length ≤ 100000000 := by omega
  clear hz hz2 hx HR0 hr hol
  clear W0
  go_enter Try.func24, Try.ntmps24
  go_wp2_with fail
  refine HW.out.mono ?_; rintro e w1 ⟨rfl, hb1⟩
  have hs1 := hb1.size
  go_wp2_with fail
  refine (HOF.out w1 hb1).mono ?_; rintro e w2 ⟨A2, c2, rfl, hown2, hb2⟩
  have hb0 : Below w.heap.size w w2 := hb1.trans (hb2.mono hs1)
  have hrx := rd_own hown2
  clear hown2 hb2 HOF
  go_wp2_with fail
  go_loopw [7, 9] (fun v7 v8 wr => ∃ k : Nat, k ≤ x.length ∧ v8 = .int .i64 k ∧ wr.ownsRow w2.heap.size 27 2 v7 (x.take k).length (scells ((x.take k).map (iS n))) ∧ Below w2.heap.size w2 wr) (fun _ v8 _ => x.length - (intOf v8).toNat)
  case atStart => exact ⟨0, by omega, rfl, World.ownsRow_nil _ _ _ _, Below.refl _ _⟩
  case round =>
    obtain ⟨k, hk, rfl, hown, hbel⟩ := hrel
    rw [show (x.take k).length = k by rw [List.length_take]; omega] at hown
    have hbw : Below w.heap.size w wr := hb0.trans (hbel.mono hb0.size)
    have hbz := hbw.size
    obtain ⟨A7, c7, rfl, hc7⟩ := own_form hown
    by_cases hlt : k < x.length
    case neg =>
      have hkk : k = x.length := by omega
      have hge : (x.length : Int) ≤ (k : Int) := by omega
      rw [hkk, List.take_length] at hown
      have hle : (x.map (iS n)).length = x.length := List.length_map _
      have HO := rOf_any wr.heap.size A7 c7 (x.map (iS n)) wr (by rw [← hkk] at hown; exact rd_own hown) (Nat.le_refl _) (by rw [hle]; exact hxl)
      rw [hle] at HO
      have HF := Lib.hid HO
      subst hkk
      clear HO hown hle
      obtain ⟨r, hR⟩ : ∃ r, r = ofL (x.map (iS n)) := ⟨_, rfl⟩
      rw [← hR] at HF
      have HRR := Lib.hid (HR.out.trans (by rw [← hR]))
      clear hR
      go_wp2_with fail
      refine HF.out.mono ?_; rintro e w4 ⟨A4, c4, rfl, hown4, hb4⟩
      have hown5 := own_lower hown4 hbz
      have hb5 := hbw.trans (hb4.mono hbz)
      clear hown4 hb4
      go_wp2_with fail
      go_ret2
      exact retSE_ok HRR.out hown5 hb5
    obtain ⟨s, hs⟩ : ∃ v, x[k]? = some v := ⟨_, List.getElem?_eq_getElem hlt⟩
    obtain ⟨gb, go, hgA, hgb, q0, q1⟩ := rd_span hrx hs
    subst hgA
    have r0 := (hbel.cell (p := ⟨gb, go + k * 2, none⟩) (by show gb < _; omega)).trans q0
    have r1 := (hbel.cell (p := ⟨gb, go + k * 2 + 1, none⟩) (by show gb < _; omega)).trans q1
    have hkI : (k : Int) < (x.length : Int) := by omega
    have O0 := fun w => HG.out s (List.mem_of_getElem? hs) w
    have hnx : (x.take (k + 1)).map (iS n) = (x.take k).map (iS n) ++ [iS n s] := by rw [List.take_add_one, hs, List.map_append]; rfl
    have hnl : (x.take (k + 1)).length = k + 1 := by rw [List.length_take]; omega
    have HNX := Lib.hid hnx
    have HNL := Lib.hid hnl
    obtain ⟨y, hy⟩ : ∃ y, y = iS n s := ⟨_, rfl⟩
    rw [← hy] at O0 HNX
    have HO := Lib.hid O0
    clear q0 q1 hs O0 hnx hnl hy
    go_wp2_with fail
    refine (HO.out _).mono ?_; rintro e w5 ⟨rfl, hb5⟩
    have hown5 := own_bel hown hb5
    have hb05 : Below w2.heap.size w2 w5 := hbel.trans (hb5.mono hbel.size)
    have hz5 := hb5.size
    clear hown hb5 r0 r1
    go_wp2_with (at_builtin; refine wpList_app HEL rfl _ _ rfl (hown5.alloc _) rfl rfl (sc_two y rfl) rfl (sc_one _) (by unfold maxLen; omega) (by have : (k + 1) * by_ ≤ 1000000001 * 64 := Nat.mul_le_mul (by omega) hby; omega) (by have := hb05.size; simp; omega) ?_; intro v6 w6 hown6 hg6 _)
    have hb6 : Below w2.heap.size w2 w6 := (hb05.alloc hb05.size _).trans (own_below (hown5.alloc _) hg6 (by have := hb05.size; simp; omega))
    go_roundw
    case rel => exact ⟨k + 1, by omega, by go_num, by rw [HNL.out, HNX.out, scells_snoc]; exact hown6, hb6⟩
    case measure => simp [intOf]; omega
end Go.Proofs.Ytiohdacbnigpkaa

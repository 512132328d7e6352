/- The law KeyAppends (layer 3), walked: true for every input. No condition. -/
import Derived.Test.YtdbhbfpfcdklmaaKeyL1
namespace Go.Proofs.Ytdbhbfpfcdklmaa
open Go.RowKit
set_option linter.unusedVariables false
set_option linter.unusedSimpArgs false

theorem lit0_u8 (w : World) : (w.alloc (.cells #[] 5)).ownsRow w.heap.size 5 1 (.slice (some ⟨w.heap.size, 0, none⟩) 0 0) 0 [] := World.ownsRow_lit w #[] 0 (Nat.le_refl _) (by unfold maxLen; omega) rfl
theorem lit0_val (w : World) : (w.alloc (.cells #[] 39)).ownsRow w.heap.size 39 3 (.slice (some ⟨w.heap.size, 0, none⟩) 0 0) 0 [] := World.ownsRow_lit w #[] 0 (Nat.le_refl _) (by unfold maxLen; omega) rfl
theorem vok2 {l : List V} (h : ∀ v ∈ l, vok v) : ∀ v ∈ l, v.k < 256 ∧ i64r v.n := fun v hv => ⟨(h v hv).1, (h v hv).2.1⟩

set_option maxHeartbeats 4000000 in
set_option maxRecDepth 100000 in
theorem keyAppends_walk (A : Option Addr) (c : Nat) (b : List UInt8) (A' : Option Addr) (c' : Nat) (l : List V) (W : World) (hb : Rd W W.heap.size A (cells b)) (hbc : b.length ≤ c ∧ c ≤ maxLen)
    (hl : Rd W W.heap.size A' (vcells l)) (hlc : l.length ≤ c' ∧ c' ≤ maxLen) (hok : ∀ v ∈ l, vok v) :
    Calls Try.prog 3 #[.slice A b.length c, .slice A' l.length c'] W fun e w' => e = .returned (.bool true) ∧ Below W.heap.size W w' := by
  obtain ⟨by_, HEL, hby⟩ := El_val
  by_cases hbl : 1000 < b.length
  · have hI : (1000 : Int) < (b.length : Int) := by omega
    go_enter Try.func3, Try.ntmps3
    go_wp2_with fail
    go_ret
    exact ⟨rfl, Below.refl _ _⟩
  have hI : (b.length : Int) ≤ 1000 := by omega
  have KL := Lib.hid (fun w => long_any W.heap.size A' c' l w)
  obtain ⟨lg, hlg⟩ : ∃ x, x = lng l := ⟨_, rfl⟩
  rw [← hlg] at KL
  rcases lg with _ | _
  case true =>
    clear hlg
    go_enter Try.func3, Try.ntmps3
    go_wp2_with fail
    refine (KL.out W hl (Nat.le_refl _)).mono ?_; rintro e w1 ⟨rfl, hb1⟩
    go_wp2_with fail
    go_ret
    exact ⟨rfl, hb1⟩
  obtain ⟨hl30, _, hflat⟩ := lng_false hlg.symm
  have HOK := Lib.hid (vok2 hok)
  clear hlg hok
  go_enter Try.func3, Try.ntmps3
  go_wp2_with fail
  refine (KL.out W hl (Nat.le_refl _)).mono ?_; rintro e w1 ⟨rfl, hb1⟩
  have hsz1 := hb1.size
  have hbr := hb.below hb1
  have hlr := hl.below hb1
  go_wp2_with (first
    | (at_builtin; refine wpList_app HEL rfl _ _ rfl ((lit0_val w3)) rfl rfl ((hlr3.alloc (by omega) _)) (vcells_length l) (vcells_one l) (by unfold maxLen; omega) (by have : (0 + l.length) * by_ ≤ 30 * 64 := Nat.mul_le_mul (by omega) hby; omega) (by simp) ?_; intro v4 w4 hown4 hg4 _; obtain ⟨A4, c4, rfl, hc4⟩ := own_form hown4; rw [Nat.zero_add, List.nil_append] at hown4)
    | (at_builtin; refine wpList_app El_u8 rfl _ _ rfl (hown2.alloc _) rfl rfl (by exact rd_one _ _ _ _ _ rfl (Nat.lt_add_one _)) rfl one_int (by unfold maxLen; omega) (by omega) (by have := hb2.size; simp; omega) ?_; intro v3 w3 hown3 hg3 _; have hb3 : Below w1.heap.size w1 w3 := (hb2.alloc hb2.size _).trans (own_below (hown2.alloc _) hg3 (by have := hb2.size; simp; omega)); have hlr3 := hl.below (hb1.trans (hb3.mono hsz1)); have hsz3 := hb3.size; obtain ⟨A3, c3, rfl, hc3⟩ := own_form hown3; have hc3I : (b.length : Int) ≤ (c3 : Int) := by omega)
    | (at_builtin; refine wpList_app El_u8 rfl _ _ rfl (lit0_u8 w1) rfl rfl (hbr.alloc (by omega) _) (by simp) (cells_one b) (by unfold maxLen; omega) (by omega) (by simp) ?_; intro v2 w2 hown2 hg2 _; have hb2 : Below w1.heap.size w1 w2 := ((Below.refl _ _).alloc (Nat.le_refl _) _).trans (own_below (lit0_u8 w1) hg2 (by simp)); rw [Nat.zero_add, List.nil_append] at hown2))
  have hb34 : Below w3.heap.size w3 w4 := ((Below.refl _ _).alloc (Nat.le_refl _) _).trans (own_below (lit0_val w3) hg4 (by simp))
  have hown3b := own_bel hown3 hb34
  have hrd4 : Rd w4 w4.heap.size A3 (cells b) := by
    have h := (rd_own hown3b).take b.length
    rwa [List.take_left' (by simp)] at h
  have hrv4 := rd_own hown4
  have hb4 : Below W.heap.size W w4 := (hb1.trans (hb3.mono hsz1)).trans (hb34.mono (by omega))
  have K1 := Append_any w4.heap.size A3 A4 c3 c4 b l w4 hrd4 hrv4 (Nat.le_refl _) (by omega) (by omega) HOK.out
  have KR := Lib.hid (fun w hb hl hB => RAppend_any W.heap.size A A' c c' b l w hb hl hB (by omega) (by omega) HOK.out)
  obtain ⟨ke, hke⟩ : ∃ x, x = kapp b l := ⟨_, rfl⟩
  rw [← hke] at K1 KR
  obtain ⟨ks, er⟩ := ke
  have H1 := Lib.hid K1
  clear K1 hke
  refine (H1.out).mono ?_; rintro e w5 ⟨A5, c5, rfl, hown5, hb5⟩
  dsimp only at hown5 ⊢
  have hb05 : Below W.heap.size W w5 := hb4.trans (hb5.mono hb4.size)
  go_wp2_with fail
  refine (KR.out w5 (hb.below hb05) (hl.below hb05) hb05.size).mono ?_; rintro e w6 ⟨A6, c6, rfl, hown6, hb6⟩
  dsimp only at hown6 ⊢
  have hb46 : Below w4.heap.size w4 w6 := hb5.trans (hb6.mono hb5.size)
  have hb06 : Below W.heap.size W w6 := hb4.trans (hb46.mono hb4.size)
  have hcv1 := conv_own (own_bel hown5 hb6)
  have hcv2 := conv_own hown6
  have hrd6 := rd_own (own_bel hown3b hb46)
  have hrv6 := rd_own (own_bel hown4 hb46)
  have hlv6 := (hl.below hb06).more hb06.size
  obtain ⟨b3, o3, rfl, _, hcc⟩ := hrd6.at (k := b.length) (by simp)
  have hc7 : w6.cell? ⟨b3, o3 + b.length, none⟩ = some (.int .u8 7) := hcc b.length _ (by simp)
  have hc3J : (b.length : Int) < (b.length : Int) + 1 := by omega
  have HS := Lib.hid (Same_any w6.heap.size A4 A' c4 c' l l w6 hrv6 hlv6 (Nat.le_refl _) (by unfold maxLen; omega))
  clear hown2 hown3 hown4 hown5 hown6 hown3b hrd6 hrv6 hlv6 hcc hrd4 hrv4 hg2 hg3 hg4
  go_wp2_with fail
  refine (HS.out).mono ?_; rintro e w7 ⟨rfl, hb7⟩
  go_wp2_with fail
  refine (keys_any w7).mono ?_; rintro e w8 ⟨rfl, hb8⟩
  have hb07 : Below W.heap.size W w7 := hb06.trans (hb7.mono hb06.size)
  have hb08 : Below W.heap.size W w8 := hb07.trans (hb8.mono hb07.size)
  go_wp2_with fail
  go_ret
  exact ⟨rfl, hb08⟩
end Go.Proofs.Ytdbhbfpfcdklmaa

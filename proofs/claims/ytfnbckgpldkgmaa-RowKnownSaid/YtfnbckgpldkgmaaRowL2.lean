/- The laws RowPuts and RowGets (layer 4), walked: true for every input. No condition. -/
import Derived.Test.YtfnbckgpldkgmaaRowL1
import Derived.Test.YtfnbckgpldkgmaaRowQ
namespace Go.Proofs.Ytfnbckgpldkgmaa
open Go.RowKit Go.Maps
set_option linter.unusedVariables false
set_option linter.unusedSimpArgs false

theorem vok3 {l : List V} (h : ∀ v ∈ l, vok v) (ht : ∀ v ∈ l, v.t.length ≤ 400) : ∀ v ∈ l, v.k < 256 ∧ i64r v.n ∧ v.t.length ≤ 1000000 := fun v hv => ⟨(h v hv).1, (h v hv).2.1, by have := ht v hv; omega⟩

set_option maxHeartbeats 4000000 in
set_option maxRecDepth 100000 in
theorem rowPuts_walk (A : Option Addr) (c : Nat) (T : List UInt8) (A' : Option Addr) (c' : Nat) (l : List V) (W : World) (hT : Rd W W.heap.size A (cells T)) (hTc : T.length ≤ c ∧ c ≤ maxLen)
    (hl : Rd W W.heap.size A' (vcells l)) (hlc : l.length ≤ c' ∧ c' ≤ maxLen) (hok : ∀ v ∈ l, vok v) :
    Calls Try.prog 3 #[.slice A T.length c, .slice A' l.length c'] W fun e w' => e = .returned (.bool true) ∧ Below W.heap.size W w' := by
  obtain ⟨by_, HEL, hby⟩ := El_val
  have KL := Lib.hid (fun w h hB => long_any W.heap.size A A' c c' T l w h hB)
  obtain ⟨lg, hlg⟩ : ∃ x, x = lngR T l := ⟨_, rfl⟩
  rw [← hlg] at KL
  rcases lg with _ | _
  case true =>
    clear hlg
    go_enter Try.func3, Try.ntmps3
    go_wp2_with fail
    refine (KL.out W hl (Nat.le_refl _)).mono ?_; rintro e w1 ⟨rfl, rfl⟩
    go_wp2_with fail
    go_ret
    exact ⟨rfl, Below.refl _ _⟩
  obtain ⟨hT60, hl60, ht⟩ := lngR_false hlg.symm
  have hrb := rb_len hl60 hok ht
  have HOK := Lib.hid (vok3 hok ht)
  clear hlg hok ht
  have P1 := fun (A A' : Option Addr) (c c' : Nat) (w : World) h1 h2 => Put_row w.heap.size A A' c c' T l w h1 h2 (Nat.le_refl _) (by omega) (by omega) HOK.out (by omega)
  have P2 := fun (w : World) h1 h2 hB => RPut_row W.heap.size A A' c c' T l w h1 h2 hB (by omega) (by omega) HOK.out (by omega)
  obtain ⟨rp, hrp⟩ : ∃ x, x = rput T l := ⟨_, rfl⟩
  rw [← hrp] at P1 P2
  obtain ⟨bs, er⟩ := rp
  have H1 := Lib.hid P1
  have H2 := Lib.hid P2
  clear P1 P2 hrp hrb
  go_enter Try.func3, Try.ntmps3
  go_wp2_with fail
  refine (KL.out W hl (Nat.le_refl _)).mono ?_; rintro e w1 ⟨rfl, rfl⟩
  go_wp2_with (first
    | (at_builtin; refine wpList_app HEL rfl _ _ rfl ((lit0_val w2)) rfl rfl ((hlr2.alloc (by omega) _)) (vcells_length l) (vcells_one l) (by unfold maxLen; omega) (by have : (0 + l.length) * by_ ≤ 60 * 64 := Nat.mul_le_mul (by omega) hby; omega) (by simp) ?_; intro v3 w3 hown3 hg3 _; obtain ⟨A3, c3, rfl, hc3⟩ := own_form hown3; rw [Nat.zero_add, List.nil_append] at hown3)
    | (at_builtin; refine wpList_app El_u8 rfl _ _ rfl (lit0_u8 W) rfl rfl (hT.alloc (Nat.le_refl _) _) (by simp) (cells_one T) (by unfold maxLen; omega) (by omega) (by simp) ?_; intro v2 w2 hown2 hg2 _; have hb2 : Below W.heap.size W w2 := ((Below.refl _ _).alloc (Nat.le_refl _) _).trans (own_below (lit0_u8 W) hg2 (by simp)); rw [Nat.zero_add, List.nil_append] at hown2; have hlr2 := hl.below hb2; have hsz2 := hb2.size; obtain ⟨A2, c2, rfl, hc2⟩ := own_form hown2))
  have hb23 : Below w2.heap.size w2 w3 := ((Below.refl _ _).alloc (Nat.le_refl _) _).trans (own_below (lit0_val w2) hg3 (by simp))
  have hown2b := own_bel hown2 hb23
  have hb3 : Below W.heap.size W w3 := hb2.trans (hb23.mono hsz2)
  have hz3 := hb3.size
  refine (H1.out A2 A3 c2 c3 w3 (rd_own hown2b) (rd_own hown3)).mono ?_; rintro e w5 ⟨A5, c5, rfl, hown5, hb5⟩
  dsimp only at hown5 ⊢
  have hb05 : Below W.heap.size W w5 := hb3.trans (hb5.mono hb3.size)
  go_wp2_with fail
  refine (H2.out w5 (hT.below hb05) (hl.below hb05) hb05.size).mono ?_; rintro e w6 ⟨A6, c6, rfl, hown6, hb6⟩
  dsimp only at hown6 ⊢
  have hb36 : Below w3.heap.size w3 w6 := hb5.trans (hb6.mono hb5.size)
  have hb06 : Below W.heap.size W w6 := hb3.trans (hb36.mono hb3.size)
  have hcv1 := conv_own (own_bel hown5 hb6)
  have hcv2 := conv_own hown6
  have hcv3 := conv_own (own_bel hown2b hb36)
  have hcv4 := conv_rd (hT.below hb06) c
  have HS := Lib.hid (Same_any w6.heap.size A3 A' c3 c' l l w6 (rd_own (own_bel hown3 hb36)) ((hl.below hb06).more hb06.size) (Nat.le_refl _) (by unfold maxLen; omega))
  clear hown2 hown3 hown5 hown6 hown2b hg2 hg3
  go_wp2_with fail
  refine (HS.out).mono ?_; rintro e w7 ⟨rfl, hb7⟩
  go_wp2_with fail
  refine (puts_any w7).mono ?_; rintro e w8 ⟨rfl, hb8⟩
  have hb07 : Below W.heap.size W w7 := hb06.trans (hb7.mono hb06.size)
  have hb08 : Below W.heap.size W w8 := hb07.trans (hb8.mono hb07.size)
  go_wp2_with fail
  go_ret
  exact ⟨rfl, hb08⟩

set_option maxHeartbeats 4000000 in
set_option maxRecDepth 100000 in
theorem rowGets_walk (A : Option Addr) (c : Nat) (T : List UInt8) (A' : Option Addr) (c' : Nat) (b : List UInt8) (W : World) (hT : Rd W W.heap.size A (cells T)) (hTc : T.length ≤ c ∧ c ≤ maxLen)
    (hb : Rd W W.heap.size A' (cells b)) (hbc : b.length ≤ c' ∧ c' ≤ maxLen) :
    Calls Try.prog 4 #[.slice A T.length c, .slice A' b.length c'] W fun e w' => e = .returned (.bool true) ∧ Below W.heap.size W w' := by
  by_cases hT60 : 60 < T.length
  · have hI : (60 : Int) < (T.length : Int) := by omega
    go_enter Try.func4, Try.ntmps4
    go_wp2_with fail
    go_ret
    exact ⟨rfl, Below.refl _ _⟩
  have hTI : (T.length : Int) ≤ 60 := by omega
  by_cases hb2 : 2000 < b.length
  · have hI : (2000 : Int) < (b.length : Int) := by omega
    go_enter Try.func4, Try.ntmps4
    go_wp2_with fail
    go_ret
    exact ⟨rfl, Below.refl _ _⟩
  have hbI : (b.length : Int) ≤ 2000 := by omega
  have P1 := fun (A A' : Option Addr) (c c' : Nat) (w : World) h1 h2 hc => Get_row w.heap.size A A' c c' T b w h1 h2 (Nat.le_refl _) hc (by omega) (by omega)
  have P2 := fun (w : World) h1 h2 hB => RGet_row W.heap.size A A' c c' T b w h1 h2 hB hbc.1 (by omega) (by omega)
  obtain ⟨rp, hrp⟩ : ∃ x, x = rget T b := ⟨_, rfl⟩
  have hml : rp.1.length ≤ 60 := by
    rw [hrp]; exact Nat.le_trans (rget_len T b) (by omega)
  rw [← hrp] at P1 P2
  obtain ⟨ms, er⟩ := rp
  dsimp only at hml
  have H1 := Lib.hid P1
  have H2 := Lib.hid P2
  clear P1 P2 hrp
  go_enter Try.func4, Try.ntmps4
  go_wp2_with (first
    | (at_builtin; refine wpList_app El_u8 rfl _ _ rfl (lit0_u8 w2) rfl rfl (hTr.alloc (by omega) _) (by simp) (cells_one T) (by unfold maxLen; omega) (by omega) (by simp) ?_; intro v3 w3 hown3 hg3 _; rw [Nat.zero_add, List.nil_append] at hown3; obtain ⟨A3, c3, rfl, hc3⟩ := own_form hown3)
    | (at_builtin; refine wpList_app El_u8 rfl _ _ rfl (lit0_u8 W) rfl rfl (hb.alloc (Nat.le_refl _) _) (by simp) (cells_one b) (by unfold maxLen; omega) (by omega) (by simp) ?_; intro v2 w2 hown2 hg2 _; have hb2' : Below W.heap.size W w2 := ((Below.refl _ _).alloc (Nat.le_refl _) _).trans (own_below (lit0_u8 W) hg2 (by simp)); rw [Nat.zero_add, List.nil_append] at hown2; have hTr := hT.below hb2'; have hsz2 := hb2'.size; obtain ⟨A2, c2, rfl, hc2⟩ := own_form hown2))
  have hb23 : Below w2.heap.size w2 w3 := ((Below.refl _ _).alloc (Nat.le_refl _) _).trans (own_below (lit0_u8 w2) hg3 (by simp))
  have hown2b := own_bel hown2 hb23
  have hb3 : Below W.heap.size W w3 := hb2'.trans (hb23.mono hsz2)
  have hz3 := hb3.size
  refine (H1.out A3 A2 c3 c2 w3 (rd_own hown3) (rd_own hown2b) hc2).mono ?_; rintro e w5 ⟨A5, c5, rfl, hown5, hb5⟩
  dsimp only at hown5 ⊢
  have hb05 : Below W.heap.size W w5 := hb3.trans (hb5.mono hb3.size)
  go_wp2_with fail
  refine (H2.out w5 (hT.below hb05) (hb.below hb05) hb05.size).mono ?_; rintro e w6 ⟨A6, c6, rfl, hown6, hb6⟩
  dsimp only at hown6 ⊢
  have hb36 : Below w3.heap.size w3 w6 := hb5.trans (hb6.mono hb5.size)
  have hb06 : Below W.heap.size W w6 := hb3.trans (hb36.mono hb3.size)
  have HS := Lib.hid (Same_any w6.heap.size A5 A6 c5 c6 ms ms w6 (rd_own (own_bel hown5 hb6)) (rd_own hown6) (Nat.le_refl _) (by unfold maxLen; omega))
  have CV1 := fun w7 (h : Below w6.heap.size w6 w7) => conv_own (own_bel hown2b (hb36.trans (h.mono hb36.size)))
  have CV2 := fun w7 (h : Below w6.heap.size w6 w7) => conv_rd (hb.below (hb06.trans (h.mono hb06.size))) c'
  clear hown2 hown3 hown5 hown6 hg2 hg3
  go_wp2_with fail
  refine (HS.out).mono ?_; rintro e w7 ⟨rfl, hb7⟩
  have hcv1 := CV1 w7 hb7
  have hcv2 := CV2 w7 hb7
  clear CV1 CV2
  go_wp2_with fail
  refine (puts_any w7).mono ?_; rintro e w8 ⟨rfl, hb8⟩
  have hb07 : Below W.heap.size W w7 := hb06.trans (hb7.mono hb06.size)
  have hb08 : Below W.heap.size W w8 := hb07.trans (hb8.mono hb07.size)
  go_wp2_with fail
  go_ret
  exact ⟨rfl, hb08⟩
end Go.Proofs.Ytfnbckgpldkgmaa

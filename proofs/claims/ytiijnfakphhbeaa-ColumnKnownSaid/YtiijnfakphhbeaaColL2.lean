/- The laws ColumnPuts, ColumnGets and ColumnBounds (layer 6), walked: true for every input. No condition. -/
import Derived.Test.YtiijnfakphhbeaaColL1
import Derived.Test.YtiijnfakphhbeaaColQ
namespace Go.Proofs.Ytiijnfakphhbeaa
open Go.RowKit Go.Maps
set_option linter.unusedVariables false
set_option linter.unusedSimpArgs false

theorem kind_of {a : Int} (h : 0 ≤ a ∧ a < 256) : ∃ t : UInt8, (.int .u8 a : Value) = b8 t := by
  refine ⟨a.toNat.toUInt8, ?_⟩
  unfold b8
  rw [toNat_toUInt8 (by omega)]
  congr 1; omega
theorem vsm_of {l : List V} (h : ∀ v ∈ l, vok v) (ht : ∀ v ∈ l, v.t.length ≤ 300) : ∀ v ∈ l, v.k < 256 ∧ i64r v.n ∧ v.t.length ≤ 1000000 := fun v hv => ⟨(h v hv).1, (h v hv).2.1, by have := ht v hv; omega⟩
theorem sizes_of {t : UInt8} {l : List V} (h : ∀ v ∈ l, vok v) (ht : ∀ v ∈ l, v.t.length ≤ 300) : (l.length ≤ 65536 → ((words (marks l)).flatMap wbytes).length ≤ 4000000000) ∧ (l.length ≤ 65536 → (cbody t (marks l)).length ≤ 4611686018) :=
  put_sizes fun v hv => ⟨(h v hv).2.1, by have := ht v hv; omega⟩

set_option maxHeartbeats 4000000 in
set_option maxRecDepth 100000 in
theorem columnPuts_walk (a : Int) (A : Option Addr) (c : Nat) (l : List V) (W : World) (ha : 0 ≤ a ∧ a < 256) (hl : Rd W W.heap.size A (vcells l)) (hlc : l.length ≤ c ∧ c ≤ maxLen) (hok : ∀ v ∈ l, vok v) :
    Calls Try.prog 3 #[.int .u8 a, .slice A l.length c] W fun e w' => e = .returned (.bool true) ∧ Below W.heap.size W w' := by
  obtain ⟨t, hta⟩ := kind_of ha
  rw [hta]
  obtain ⟨by_, HEL, hby⟩ := El_val
  have KL := Lib.hid (fun w h hB => long_any W.heap.size A c l w h hB)
  obtain ⟨lg, hlg⟩ : ∃ x, x = lng l := ⟨_, rfl⟩
  rw [← hlg] at KL
  clear hta ha
  rcases lg with _ | _
  case true =>
    clear hlg
    go_enter Try.func3, Try.ntmps3
    go_wp2_with fail
    refine (KL.out W hl (Nat.le_refl _)).mono ?_; rintro e w1 ⟨rfl, rfl⟩
    go_wp2_with fail
    go_ret
    exact ⟨rfl, Below.refl _ _⟩
  obtain ⟨hl5, ht⟩ := lng_false hlg.symm
  have hok3 := vsm_of hok ht
  obtain ⟨hs1, hs2⟩ := sizes_of (t := t) hok ht
  have P1 := fun (A : Option Addr) (c : Nat) (w : World) h1 => cput_any t A c l w h1 hok3 (by omega) hs1 hs2
  have P2 := fun (w : World) h1 hB => rcput_any W.heap.size t A c l w h1 hB hok3 (by omega) hs1 hs2
  clear hlg hok ht hok3 hs1 hs2
  obtain ⟨rp, hrp⟩ : ∃ x, x = cput t l := ⟨_, rfl⟩
  rw [← hrp] at P1 P2
  obtain ⟨bs, er⟩ := rp
  have H1 := Lib.hid P1
  have H2 := Lib.hid P2
  clear P1 P2 hrp
  go_enter Try.func3, Try.ntmps3
  go_wp2_with fail
  refine (KL.out W hl (Nat.le_refl _)).mono ?_; rintro e w1 ⟨rfl, rfl⟩
  go_wp2_with (at_builtin; refine wpList_app HEL rfl _ _ rfl (lit0_val W) rfl rfl (hl.alloc (Nat.le_refl _) _) (vcells_length l) (vcells_one l) (by unfold maxLen; omega) (by have : (0 + l.length) * by_ ≤ 500 * 64 := Nat.mul_le_mul (by omega) hby; omega) (by simp) ?_; intro v3 w3 hown3 hg3 _; obtain ⟨A3, c3, rfl, hc3⟩ := own_form hown3; rw [Nat.zero_add, List.nil_append] at hown3)
  have hb3 : Below W.heap.size W w3 := ((Below.refl _ _).alloc (Nat.le_refl _) _).trans (own_below (lit0_val W) hg3 (by simp))
  have hz3 := hb3.size
  try rw [Nat.zero_add]
  refine (H1.out A3 c3 w3 (rd_own hown3)).mono ?_; rintro e w5 ⟨A5, c5, rfl, hown5, hb5⟩
  dsimp only at hown5 ⊢
  have hb05 : Below W.heap.size W w5 := hb3.trans (hb5.mono hb3.size)
  go_wp2_with fail
  refine (H2.out w5 (hl.below hb05) hb05.size).mono ?_; rintro e w6 ⟨A6, c6, rfl, hown6, hb6⟩
  dsimp only at hown6 ⊢
  have hb36 : Below w3.heap.size w3 w6 := hb5.trans (hb6.mono hb5.size)
  have hb06 : Below W.heap.size W w6 := hb3.trans (hb36.mono hb3.size)
  have hcv1 := conv_own (own_bel hown5 hb6)
  have hcv2 := conv_own hown6
  have HS := Lib.hid (Same_any w6.heap.size A3 A c3 c l l w6 (rd_own (own_bel hown3 hb36)) ((hl.below hb06).more hb06.size) (Nat.le_refl _) (by unfold maxLen; omega))
  clear hown3 hown5 hown6 hg3
  go_wp2_with fail
  refine (HS.out).mono ?_; rintro e w7 ⟨rfl, hb7⟩
  go_wp2_with fail
  refine (puts_any w7).mono ?_; rintro e w8 ⟨rfl, hb8⟩
  have hb07 : Below W.heap.size W w7 := hb06.trans (hb7.mono hb06.size)
  have hb08 : Below W.heap.size W w8 := hb07.trans (hb8.mono hb07.size)
  go_wp2_with fail
  go_ret
  exact ⟨rfl, hb08⟩

set_option maxHeartbeats 4000000 in
set_option maxRecDepth 100000 in
theorem columnGets_walk (a : Int) (A : Option Addr) (c : Nat) (b : List UInt8) (n : Int) (W : World) (ha : 0 ≤ a ∧ a < 256) (hb : Rd W W.heap.size A (cells b)) (hbc : b.length ≤ c ∧ c ≤ maxLen) (hn : -9223372036854775808 ≤ n ∧ n ≤ 9223372036854775807) :
    Calls Try.prog 4 #[.int .u8 a, .slice A b.length c, .int .i64 n] W fun e w' => e = .returned (.bool true) ∧ Below W.heap.size W w' := by
  obtain ⟨t, hta⟩ := kind_of ha
  rw [hta]
  clear hta ha
  by_cases hb1 : 1000 < b.length
  · have hI : decide ((1000 : Int) < (b.length : Int)) = true := decide_eq_true (by omega)
    go_enter Try.func4, Try.ntmps4
    go_wp2_with fail
    go_ret
    exact ⟨rfl, Below.refl _ _⟩
  have hbI : decide ((1000 : Int) < (b.length : Int)) = false := decide_eq_false (by omega)
  have hbN : decide (1000 < b.length) = false := decide_eq_false (by omega)
  by_cases hn2 : 2000 < n ∧ n ≤ 65536
  · have hI : decide ((2000 : Int) < n) = true := decide_eq_true hn2.1
    have hI2 : decide (n ≤ (65536 : Int)) = true := decide_eq_true hn2.2
    clear hn2
    go_enter Try.func4, Try.ntmps4
    go_wp2_with fail
    go_ret
    exact ⟨rfl, Below.refl _ _⟩
  have P1 := fun (A : Option Addr) (c : Nat) (w : World) h1 hc => cget_any w.heap.size A c t b n w h1 hc (Nat.le_refl _) hn (by omega) (fun h0 h6 => by
    have h2 : n.toNat + 1 ≤ 2001 := by omega
    exact Nat.le_trans (Nat.mul_le_mul h2 (show b.length + 10 ≤ 1010 by omega)) (by decide))
  have P2 := fun (w : World) h1 hB => rcget_any W.heap.size A c t b n w h1 hbc.1 hB hn (by omega)
  have hml : (cget t b n).1.length ≤ 65536 := by
    rcases @cget_errv t b n with h | h | h
    · have := cget_inv (m := (cget t b n).1) (Prod.ext rfl h)
      omega
    · rw [h.1]; simp
    · rw [h.1]; simp
  obtain ⟨rp, hrp⟩ : ∃ x, x = cget t b n := ⟨_, rfl⟩
  rw [← hrp] at P1 P2 hml
  obtain ⟨ms, er⟩ := rp
  dsimp only at hml
  have H1 := Lib.hid P1
  have H2 := Lib.hid P2
  clear P1 P2 hrp
  have hcs : decide ((2000 : Int) < n) = false ∨ (decide ((2000 : Int) < n) = true ∧ decide (n ≤ (65536 : Int)) = false) := by
    by_cases h : 2000 < n
    · right; exact ⟨decide_eq_true h, decide_eq_false (fun h2 => hn2 ⟨h, h2⟩)⟩
    · left; exact decide_eq_false h
  clear hn2
  rcases hcs with hx | ⟨hx, hy⟩
  all_goals (
      go_enter Try.func4, Try.ntmps4
      go_wp2_with (at_builtin; refine wpList_app El_u8 rfl _ _ rfl (lit0_u8 W) rfl rfl (hb.alloc (Nat.le_refl _) _) (by simp) (cells_one b) (by unfold maxLen; omega) (by omega) (by simp) ?_; intro v3 w3 hown3 hg3 _; rw [Nat.zero_add, List.nil_append] at hown3; obtain ⟨A3, c3, rfl, hc3⟩ := own_form hown3)
      have hb3 : Below W.heap.size W w3 := ((Below.refl _ _).alloc (Nat.le_refl _) _).trans (own_below (lit0_u8 W) hg3 (by simp))
      have hz3 := hb3.size
      try rw [Nat.zero_add]
      refine (H1.out A3 c3 w3 (rd_own hown3) hc3).mono ?_; rintro e w5 ⟨A5, c5, rfl, hown5, hb5⟩
      dsimp only at hown5 ⊢
      have hb05 : Below W.heap.size W w5 := hb3.trans (hb5.mono hb3.size)
      go_wp2_with fail
      refine (H2.out w5 (hb.below hb05) hb05.size).mono ?_; rintro e w6 ⟨A6, c6, rfl, hown6, hb6⟩
      dsimp only at hown6 ⊢
      have hb36 : Below w3.heap.size w3 w6 := hb5.trans (hb6.mono hb5.size)
      have hb06 : Below W.heap.size W w6 := hb3.trans (hb36.mono hb3.size)
      have HS := Lib.hid (Same_any w6.heap.size A5 A6 c5 c6 ms ms w6 (rd_own (own_bel hown5 hb6)) (rd_own hown6) (Nat.le_refl _) (by unfold maxLen; omega))
      have CV1 := Lib.hid (fun w7 (h : Below w6.heap.size w6 w7) => conv_own (own_bel hown3 (hb36.trans (h.mono hb36.size))))
      have CV2 := Lib.hid (fun w7 (h : Below w6.heap.size w6 w7) => conv_rd (hb.below (hb06.trans (h.mono hb06.size))) c)
      clear hown3 hown5 hown6 hg3
      go_wp2_with fail
      refine (HS.out).mono ?_; rintro e w7 ⟨rfl, hb7⟩
      have hcv1 := CV1.out w7 hb7
      have hcv2 := CV2.out w7 hb7
      clear CV1 CV2
      go_wp2_with fail
      refine (puts_any w7).mono ?_; rintro e w8 ⟨rfl, hb8⟩
      have hb07 : Below W.heap.size W w7 := hb06.trans (hb7.mono hb06.size)
      have hb08 : Below W.heap.size W w8 := hb07.trans (hb8.mono hb07.size)
      go_wp2_with fail
      go_ret
      exact ⟨rfl, hb08⟩)
end Go.Proofs.Ytiijnfakphhbeaa

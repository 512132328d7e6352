/- The law ColumnBack (layer 6), walked: true for every input. No condition. -/
import Derived.Test.YtiijnfakphhbeaaColL2
namespace Go.Proofs.Ytiijnfakphhbeaa
open Go.RowKit Go.Maps
set_option linter.unusedVariables false
set_option linter.unusedSimpArgs false

theorem vsz_of {l : List V} (h : ∀ v ∈ l, vok v) : ∀ v ∈ l, vsz v := fun v hv => ⟨(h v hv).2.1, by have := (h v hv).2.2; unfold maxLen at this; omega⟩
theorem cput_len {t : UInt8} {l : List V} (h : ∀ v ∈ l, vok v) (ht : ∀ v ∈ l, v.t.length ≤ 300) (hl : l.length ≤ 500) : (cput t l).1.length ≤ 2200000 := by
  unfold cput
  split
  · dsimp only
    have h1 := cbody_bound (t := t) (l := marks l) (M := 300) (fun v hv => ⟨(h v (mem_marks.1 hv).1).2.1, ht v (mem_marks.1 hv).1⟩) (by omega) (by have := marks_le l; omega)
    have h2 := marks_le l
    rw [List.length_append, bitsN_len]
    unfold size8
    omega
  · simp
/-- what a kind and a number of values are, as the law asks them -/
theorem kinds_bad {t : UInt8} {n : Int} (h : tyok t = false ∨ n < 0 ∨ 65536 < n) : decide ((t.toNat : Int) < 1) = true ∨ (decide ((t.toNat : Int) < 1) = false ∧ decide ((3 : Int) < (t.toNat : Int)) = true) ∨
    (decide ((t.toNat : Int) < 1) = false ∧ decide ((3 : Int) < (t.toNat : Int)) = false ∧ decide (n < 0) = true) ∨ (decide ((t.toNat : Int) < 1) = false ∧ decide ((3 : Int) < (t.toNat : Int)) = false ∧ decide (n < 0) = false ∧ decide (65536 < n) = true) := by
  unfold tyok at h
  simp only [decide_eq_true_eq, decide_eq_false_iff_not, Bool.or_eq_false_iff] at h ⊢
  omega
theorem kinds_good {t : UInt8} {n : Int} (h1 : tyok t = true) (h2 : 0 ≤ n) (h3 : n ≤ 65536) : decide ((t.toNat : Int) < 1) = false ∧ decide ((3 : Int) < (t.toNat : Int)) = false ∧ decide (n < 0) = false ∧ decide (65536 < n) = false := by
  unfold tyok at h1
  simp only [decide_eq_true_eq, decide_eq_false_iff_not, Bool.or_eq_true] at h1 ⊢
  omega

set_option maxHeartbeats 16000000 in
set_option maxRecDepth 100000 in
theorem columnBack_walk (a : Int) (A : Option Addr) (c : Nat) (l : List V) (n : Int) (A' : Option Addr) (c' : Nat) (b : List UInt8) (W : World) (ha : 0 ≤ a ∧ a < 256) (hl : Rd W W.heap.size A (vcells l)) (hlc : l.length ≤ c ∧ c ≤ maxLen) (hok : ∀ v ∈ l, vok v)
    (hn : -9223372036854775808 ≤ n ∧ n ≤ 9223372036854775807) (hb : Rd W W.heap.size A' (cells b)) (hbc : b.length ≤ c' ∧ c' ≤ maxLen) :
    Calls Try.prog 5 #[.int .u8 a, .slice A l.length c, .int .i64 n, .slice A' b.length c'] W fun e w' => e = .returned (.bool true) ∧ Below W.heap.size W w' := by
  obtain ⟨t, hta⟩ := kind_of ha
  rw [hta]
  clear hta ha
  have KL := Lib.hid (fun w h hB => long_any W.heap.size A c l w h hB)
  obtain ⟨lg, hlg⟩ : ∃ x, x = lng l := ⟨_, rfl⟩
  rw [← hlg] at KL
  rcases lg with _ | _
  case true =>
    clear hlg
    go_enter Try.func5, Try.ntmps5
    go_wp2_with fail
    refine (KL.out W hl (Nat.le_refl _)).mono ?_; rintro e w1 ⟨rfl, rfl⟩
    go_wp2_with fail
    go_ret
    exact ⟨rfl, Below.refl _ _⟩
  obtain ⟨hl5, ht⟩ := lng_false hlg.symm
  by_cases hb1 : 1000 < b.length
  · have hI : decide ((1000 : Int) < (b.length : Int)) = true := decide_eq_true (by omega)
    clear hlg
    go_enter Try.func5, Try.ntmps5
    go_wp2_with fail
    refine (KL.out W hl (Nat.le_refl _)).mono ?_; rintro e w1 ⟨rfl, rfl⟩
    go_wp2_with fail
    go_ret
    exact ⟨rfl, Below.refl _ _⟩
  have hbI : decide ((1000 : Int) < (b.length : Int)) = false := decide_eq_false (by omega)
  have hbN : decide (1000 < b.length) = false := decide_eq_false (by omega)
  by_cases hn2 : 2000 < n ∧ n ≤ 65536
  · have hI : decide ((2000 : Int) < n) = true := decide_eq_true hn2.1
    have hI2 : decide (n ≤ (65536 : Int)) = true := decide_eq_true hn2.2
    clear hn2 hlg
    go_enter Try.func5, Try.ntmps5
    go_wp2_with fail
    refine (KL.out W hl (Nat.le_refl _)).mono ?_; rintro e w1 ⟨rfl, rfl⟩
    go_wp2_with fail
    go_ret
    exact ⟨rfl, Below.refl _ _⟩
  have hcs : decide ((2000 : Int) < n) = false ∨ (decide ((2000 : Int) < n) = true ∧ decide (n ≤ (65536 : Int)) = false) := by
    by_cases h : 2000 < n
    · right; exact ⟨decide_eq_true h, decide_eq_false (fun h2 => hn2 ⟨h, h2⟩)⟩
    · left; exact decide_eq_false h
  have hok3 := vsm_of hok ht
  obtain ⟨hs1, hs2⟩ := sizes_of (t := t) hok ht
  have HCOL := Lib.hid (fun w h hB => rColumn_any W.heap.size A c t l w h hB (by omega) (fun v hv => (hok v hv).1))
  have P1 := cput_any t A c l W hl hok3 (by omega) hs1 hs2
  have hlen := cput_len (t := t) hok ht hl5
  have hgp := fun (h : colok t l = true) => (cget_put h (vsz_of hok) []).1 rfl
  -- the bytes handed in
  have hbsz : 0 ≤ n → n ≤ 65536 → (n.toNat + 1) * (b.length + 10) ≤ 4000000000 := fun h0 h6 => by
    have h2 : n.toNat + 1 ≤ 2001 := by omega
    exact Nat.le_trans (Nat.mul_le_mul h2 (show b.length + 10 ≤ 1010 by omega)) (by decide)
  have G3 := Lib.hid (fun (w : World) (hB : W.heap.size ≤ w.heap.size) h1 => cget_any W.heap.size A' c' t b n w h1 hbc.1 hB hn (by omega) hbsz)
  have hev := @cget_errv t b n
  have hinv : ∀ m, cget t b n = (m, 0) → _ := fun m h => cget_inv h
  obtain ⟨r3, hr3⟩ : ∃ x, x = cget t b n := ⟨_, rfl⟩
  rw [← hr3] at G3 hev hinv
  obtain ⟨m3, f3⟩ := r3
  dsimp only at hev
  have HEV := Lib.hid hev
  have HINV := Lib.hid hinv
  obtain ⟨rp, hrp⟩ : ∃ x, x = cput t l := ⟨_, rfl⟩
  rw [← hrp] at P1 hlen hgp
  obtain ⟨bs, er⟩ := rp
  dsimp only at hlen hgp
  have H1 := Lib.hid P1
  have HLEN := Lib.hid hlen
  obtain ⟨co, hco⟩ : ∃ x, x = colok t l := ⟨_, rfl⟩
  rw [← hco] at HCOL hgp
  have her : er = if co then 0 else 1 := by
    have h : cput t l = (bs, er) := hrp.symm
    unfold cput at h
    rw [← hco] at h
    cases co
    · simp at h; exact h.2.symm
    · simp at h; exact h.2.symm
  have HGP := Lib.hid hgp
  have hlI : l.length ≤ 500 := hl5
  clear hlg hok ht hok3 hs1 hs2 P1 hlen hgp hrp hco hr3 hev hinv hbsz hb1 hn2
  cases co
  · rw [if_neg (by simp)] at her
    subst her
    rcases hcs with hx | ⟨hx, hy⟩
    all_goals
      go_enter Try.func5, Try.ntmps5
      go_wp2_with fail
      refine (KL.out W hl (Nat.le_refl _)).mono ?_; rintro e w1 ⟨rfl, rfl⟩
      go_wp2_with fail
      refine H1.out.mono ?_; rintro e w1 ⟨A1, c1, rfl, hown1, hb1⟩
      dsimp only at hown1
      dsimp only
      have hz1 := hb1.size
      have hc1 := own_le hown1
      go_wp2_with fail
      refine (HCOL.out w1 (hl.below hb1) hz1).mono ?_; rintro e w2 ⟨rfl, hb2⟩
      have hb02 : Below W.heap.size W w2 := hb1.trans (hb2.mono hz1)
      have hrx := (rd_own (own_bel hown1 hb2))
      clear hown1
      have hz2 := hb02.size
      have hbr := hb.below hb02
      go_wp2_with fail
      refine (G3.out w2 hz2 hbr).mono ?_; rintro e w5 ⟨A5, c5, rfl, hown5, hb5⟩
      dsimp only at hown5
      dsimp only
      have hb05 : Below W.heap.size W w5 := hb02.trans (hb5.mono hz2)
      have hz5 := hb05.size
      rcases HEV.out with hf | ⟨hm, hf, hbad⟩ | ⟨hm, hf, hgood⟩
      · subst hf
        obtain ⟨i1, i2, i3, i4, i5, i6, i7⟩ := HINV.out m3 rfl
        obtain ⟨d1, d2, d3, d4⟩ := kinds_good i1 i2 i3
        have hm3l : m3.length ≤ 65536 := by omega
        have hps := put_sizes (t := t) (l := m3) (fun v hv => ⟨(i7 v hv).2.1, by have := (i7 v hv).2.2; simp only [decide_eq_false_iff_not] at hbN; omega⟩)
        have P3 := cput_any t A5 c5 m3 w5 (rd_own hown5) (fun v hv => ⟨(i7 v hv).1, (i7 v hv).2.1, by have := (i7 v hv).2.2; simp only [decide_eq_false_iff_not] at hbN; omega⟩) (by omega) hps.1 hps.2
        rw [i6] at P3
        have HP3 := Lib.hid P3
        have hnI : ((m3.length : Int) == n) = true := by simp; omega
        clear i1 i2 i3 i4 i5 i6 i7 hps P3 hown5
        go_wp2_with fail
        refine HP3.out.mono ?_; rintro e w6 ⟨A6, c6, rfl, hown6, hb6⟩
        dsimp only at hown6
        dsimp only
        have hb06 : Below W.heap.size W w6 := hb05.trans (hb6.mono hz5)
        have hcv1 := conv_own hown6
        have hcv2 := conv_rd (hb.below hb06) c'
        clear hown6
        go_wp2_with fail
        refine (puts_any _).mono ?_; rintro e w8 ⟨rfl, hb8⟩
        go_wp2_with fail
        go_ret
        exact ⟨rfl, hb06.trans (hb8.mono hb06.size)⟩
      · subst hm hf
        rcases kinds_bad hbad with d1 | ⟨d1, d2⟩ | ⟨d1, d2, d3⟩ | ⟨d1, d2, d3, d4⟩
        all_goals
          clear hown5 hbad
          go_wp2_with fail
          refine (puts_any _).mono ?_; rintro e w8 ⟨rfl, hb8⟩
          go_wp2_with fail
          go_ret
          exact ⟨rfl, hb05.trans (hb8.mono hz5)⟩
      · subst hm
        obtain ⟨d1, d2, d3, d4⟩ := kinds_good hgood.1 hgood.2.1 hgood.2.2
        clear hgood hown5
        rcases hf with hf | hf
        all_goals
          subst hf
          go_wp2_with fail
          refine (puts_any _).mono ?_; rintro e w8 ⟨rfl, hb8⟩
          go_wp2_with fail
          go_ret
          exact ⟨rfl, hb05.trans (hb8.mono hz5)⟩
  · rw [if_pos rfl] at her
    subst her
    have hcg := HGP.out rfl
    rw [List.append_nil] at hcg
    have HX0 := Lib.hid (fun (A1 : Option Addr) (c1 : Nat) (w2 : World) h1 hc => cget_any w2.heap.size A1 c1 t bs (l.length : Int) w2 h1 hc (Nat.le_refl _) (by unfold i64r; omega) (by have := HLEN.out; omega) (fun _ _ => by
      have := HLEN.out
      exact Nat.le_trans (Nat.mul_le_mul (show (l.length : Int).toNat + 1 ≤ 501 by omega) (show bs.length + 10 ≤ 2200010 by omega)) (by decide)))
    rw [hcg] at HX0
    clear hcg
    rcases hcs with hx | ⟨hx, hy⟩
    all_goals
      go_enter Try.func5, Try.ntmps5
      go_wp2_with fail
      refine (KL.out W hl (Nat.le_refl _)).mono ?_; rintro e w1 ⟨rfl, rfl⟩
      go_wp2_with fail
      refine H1.out.mono ?_; rintro e w1 ⟨A1, c1, rfl, hown1, hb1⟩
      dsimp only at hown1
      dsimp only
      have hz1 := hb1.size
      have hc1 := own_le hown1
      go_wp2_with fail
      refine (HCOL.out w1 (hl.below hb1) hz1).mono ?_; rintro e w2 ⟨rfl, hb2⟩
      have hb02 : Below W.heap.size W w2 := hb1.trans (hb2.mono hz1)
      have hrx := (rd_own (own_bel hown1 hb2))
      clear hown1
      go_wp2_with fail
      refine (HX0.out A1 c1 w2 hrx hc1).mono ?_; rintro e w3 ⟨A3, c3, rfl, hown3, hb3⟩
      dsimp only at hown3
      dsimp only
      have hb03 : Below W.heap.size W w3 := hb02.trans (hb3.mono hb02.size)
      have HS := Lib.hid (Same_any w3.heap.size A3 A c3 c l l w3 (rd_own hown3) ((hl.below hb03).more hb03.size) (Nat.le_refl _) (by unfold maxLen; omega))
      clear hown3
      go_wp2_with fail
      refine HS.out.mono ?_; rintro e w4 ⟨rfl, hb4⟩
      have hb02 : Below W.heap.size W w4 := hb03.trans (hb4.mono hb03.size)
      clear hb1 hb2 hb3 hb4 hb03
      have hz2 := hb02.size
      have hbr := hb.below hb02
      go_wp2_with fail
      refine (G3.out w4 hz2 hbr).mono ?_; rintro e w5 ⟨A5, c5, rfl, hown5, hb5⟩
      dsimp only at hown5
      dsimp only
      have hb05 : Below W.heap.size W w5 := hb02.trans (hb5.mono hz2)
      have hz5 := hb05.size
      rcases HEV.out with hf | ⟨hm, hf, hbad⟩ | ⟨hm, hf, hgood⟩
      · subst hf
        obtain ⟨i1, i2, i3, i4, i5, i6, i7⟩ := HINV.out m3 rfl
        obtain ⟨d1, d2, d3, d4⟩ := kinds_good i1 i2 i3
        have hm3l : m3.length ≤ 65536 := by omega
        have hps := put_sizes (t := t) (l := m3) (fun v hv => ⟨(i7 v hv).2.1, by have := (i7 v hv).2.2; simp only [decide_eq_false_iff_not] at hbN; omega⟩)
        have P3 := cput_any t A5 c5 m3 w5 (rd_own hown5) (fun v hv => ⟨(i7 v hv).1, (i7 v hv).2.1, by have := (i7 v hv).2.2; simp only [decide_eq_false_iff_not] at hbN; omega⟩) (by omega) hps.1 hps.2
        rw [i6] at P3
        have HP3 := Lib.hid P3
        have hnI : ((m3.length : Int) == n) = true := by simp; omega
        clear i1 i2 i3 i4 i5 i6 i7 hps P3 hown5
        go_wp2_with fail
        refine HP3.out.mono ?_; rintro e w6 ⟨A6, c6, rfl, hown6, hb6⟩
        dsimp only at hown6
        dsimp only
        have hb06 : Below W.heap.size W w6 := hb05.trans (hb6.mono hz5)
        have hcv1 := conv_own hown6
        have hcv2 := conv_rd (hb.below hb06) c'
        clear hown6
        go_wp2_with fail
        refine (puts_any _).mono ?_; rintro e w8 ⟨rfl, hb8⟩
        go_wp2_with fail
        go_ret
        exact ⟨rfl, hb06.trans (hb8.mono hb06.size)⟩
      · subst hm hf
        rcases kinds_bad hbad with d1 | ⟨d1, d2⟩ | ⟨d1, d2, d3⟩ | ⟨d1, d2, d3, d4⟩
        all_goals
          clear hown5 hbad
          go_wp2_with fail
          refine (puts_any _).mono ?_; rintro e w8 ⟨rfl, hb8⟩
          go_wp2_with fail
          go_ret
          exact ⟨rfl, hb05.trans (hb8.mono hz5)⟩
      · subst hm
        obtain ⟨d1, d2, d3, d4⟩ := kinds_good hgood.1 hgood.2.1 hgood.2.2
        clear hgood hown5
        rcases hf with hf | hf
        all_goals
          subst hf
          go_wp2_with fail
          refine (puts_any _).mono ?_; rintro e w8 ⟨rfl, hb8⟩
          go_wp2_with fail
          go_ret
          exact ⟨rfl, hb05.trans (hb8.mono hz5)⟩
end Go.Proofs.Ytiijnfakphhbeaa

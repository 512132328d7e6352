/- The law RowBack (layer 4), walked: true for every input. No condition. -/
import Derived.Test.YtfnbckgpldkgmaaRowL2
namespace Go.Proofs.Ytfnbckgpldkgmaa
open Go.RowKit Go.Maps
set_option linter.unusedVariables false
set_option linter.unusedSimpArgs false

theorem may_len {v : V} (h : mayB v = true) : v.t.length ≤ (vone v).length := by
  obtain ⟨k, n, t⟩ := v
  rcases mayB_cs _ h with ⟨_, h1⟩ | ⟨h1, hn1, h2⟩ | ⟨h1, h2⟩ | ⟨h1, h2⟩
  · rw [h1]; simp [null]
  · dsimp only at h2; subst h2; simp
  · dsimp only at h2; subst h2; simp
  · dsimp only at h1; subst h1
    show t.length ≤ (vput t.length ++ t).length
    rw [List.length_append]; omega
theorem vone_in {l : List V} {v : V} (h : v ∈ l) : (vone v).length ≤ (l.flatMap vone).length := by
  obtain ⟨i, hi⟩ := List.getElem?_of_mem h
  have h1 := flat_more hi
  have h2 := flatv_le l (i + 1)
  rw [h1, List.length_append] at h2
  omega
theorem row_may {T : List UInt8} {l : List V} (h : rowok T l = true) : ∀ v ∈ l, mayB v = true := fun v hv => by
  unfold rowok at h
  rw [Bool.and_eq_true, decide_eq_true_eq] at h
  obtain ⟨i, hi⟩ := List.getElem?_of_mem hv
  have hlt := (List.getElem?_eq_some_iff.1 hi).1
  have h1 := (mays_iff T l).1 h.2 i (T[i]'(by omega)) v (List.getElem?_eq_getElem _) hi
  unfold rmay at h1
  rw [Bool.and_eq_true] at h1; exact h1.1
theorem got_ok {T b : List UInt8} {m : List V} (hb : b.length ≤ 1000000) (h : rget T b = (m, 0)) : rput T m = (b, 0) ∧ rowok T m = true ∧ m.length ≤ T.length ∧ (rbytes m).length ≤ 1000000 ∧ ∀ v ∈ m, v.k < 256 ∧ i64r v.n ∧ v.t.length ≤ 1000000 := by
  obtain ⟨h1, h2, h3, h4⟩ := row_put_get (by unfold maxLen; omega) h
  have h5 := rget_len T b
  rw [h] at h5
  refine ⟨by unfold rput; rw [h1, h2, h3]; rfl, h2, h5, by rw [h3]; exact hb, fun v hv => ⟨(h4 v hv).1, (h4 v hv).2.1, ?_⟩⟩
  have h6 := may_len (row_may h2 v hv)
  have h7 := vone_in hv
  have h8 : (rbytes m).length = size8 m.length + (m.flatMap vone).length := by unfold rbytes; rw [List.length_append, layP_length]
  rw [h3] at h8
  omega

set_option maxHeartbeats 8000000 in
set_option maxRecDepth 100000 in
theorem rowBack_walk (A : Option Addr) (c : Nat) (T : List UInt8) (A' : Option Addr) (c' : Nat) (l : List V) (A2 : Option Addr) (c2 : Nat) (b : List UInt8) (W : World) (hT : Rd W W.heap.size A (cells T)) (hTc : T.length ≤ c ∧ c ≤ maxLen)
    (hl : Rd W W.heap.size A' (vcells l)) (hlc : l.length ≤ c' ∧ c' ≤ maxLen) (hok : ∀ v ∈ l, vok v) (hb : Rd W W.heap.size A2 (cells b)) (hbc : b.length ≤ c2 ∧ c2 ≤ maxLen) :
    Calls Try.prog 5 #[.slice A T.length c, .slice A' l.length c', .slice A2 b.length c2] W fun e w' => e = .returned (.bool true) ∧ Below W.heap.size W w' := by
  have KL := Lib.hid (fun w h hB => long_any W.heap.size A A' c c' T l w h hB)
  obtain ⟨lg, hlg⟩ : ∃ x, x = lngR T l := ⟨_, rfl⟩
  rw [← hlg] at KL
  rcases lg with _ | _
  case true =>
    clear hlg
    go_enter Try.func5, Try.ntmps5
    go_wp2_with fail
    refine (KL.out W hl (Nat.le_refl _)).mono ?_; rintro e w1 ⟨rfl, rfl⟩
    go_wp2_with fail
    go_ret
    exact ⟨rfl, Below.refl _ _⟩
  obtain ⟨hT60, hl60, ht⟩ := lngR_false hlg.symm
  by_cases hb2 : 2000 < b.length
  · have hI : (2000 : Int) < (b.length : Int) := by omega
    clear hlg
    go_enter Try.func5, Try.ntmps5
    go_wp2_with fail
    refine (KL.out W hl (Nat.le_refl _)).mono ?_; rintro e w1 ⟨rfl, rfl⟩
    go_wp2_with fail
    go_ret
    exact ⟨rfl, Below.refl _ _⟩
  have hbI : (b.length : Int) ≤ 2000 := by omega
  have hrb := rb_len hl60 hok ht
  have HOK := Lib.hid (vok3 hok ht)
  have HOK2 : Hid (∀ v ∈ l, i64r v.n ∧ v.t.length < 18446744073709551616) := Lib.hid fun v hv => ⟨(hok v hv).2.1, by have := ht v hv; omega⟩
  clear hlg hok ht
  have P1 := fun (w : World) h1 h2 hB => Put_row W.heap.size A A' c c' T l w h1 h2 hB (by omega) (by omega) HOK.out (by omega)
  have P2 := fun (w : World) h1 => Types_any W.heap.size A c T w h1 (by unfold maxLen; omega)
  have P3 := fun (w : World) h1 h2 hB => RRow_any W.heap.size A A' c c' T l w h1 h2 hB (by unfold maxLen; omega) (fun v hv => (HOK.out v hv).1)
  have P4 := fun (w : World) h1 h2 hB => Get_row W.heap.size A A2 c c2 T b w h1 h2 hB hbc.1 (by omega) (by omega)
  have P5 := fun (m : List V) (h : rget T b = (m, 0)) (A3 : Option Addr) (c3 : Nat) (w : World) h1 h2 => Put_row w.heap.size A A3 c c3 T m w h1 h2 (Nat.le_refl _) (by omega) (by have := (got_ok (by omega) h).2.2.1; omega) (got_ok (by omega) h).2.2.2.2 (by have := (got_ok (by omega) h).2.2.2.1; omega)
  have P6 := fun (m : List V) (h : rget T b = (m, 0)) (A3 : Option Addr) (c3 : Nat) (w : World) h1 h2 => RRow_any w.heap.size A A3 c c3 T m w h1 h2 (Nat.le_refl _) (by have := (got_ok (by omega) h).2.2.1; unfold maxLen; omega) (fun v hv => ((got_ok (by omega) h).2.2.2.2 v hv).1)
  have P7 := fun (m : List V) (h : rget T b = (m, 0)) => (got_ok (by omega) h).1
  have P8 := fun (m : List V) (h : rget T b = (m, 0)) => (got_ok (by omega) h).2.1
  have hge := rget_err T b
  obtain ⟨rg, hrg⟩ : ∃ x, x = rget T b := ⟨_, rfl⟩
  rw [← hrg] at P4 P5 P6 P7 P8 hge
  obtain ⟨ms, e2⟩ := rg
  have hrp : rput T l = if knownT T && rowok T l then (rbytes l, 0) else ([], 1) := rfl
  have hgp : knownT T = true → rowok T l = true → rget T (rbytes l) = (l, 0) := fun h1 h2 => by
    have := row_get_put h1 h2 HOK2.out []
    rw [List.append_nil, if_pos rfl] at this; exact this
  have P9 := fun (A3 : Option Addr) (c3 : Nat) (w : World) h1 h2 hc => Get_row w.heap.size A A3 c c3 T (rbytes l) w h1 h2 (Nat.le_refl _) hc (by omega) (by omega)
  obtain ⟨kn, hkn⟩ : ∃ x, x = knownT T := ⟨_, rfl⟩
  obtain ⟨ro, hro⟩ : ∃ x, x = rowok T l := ⟨_, rfl⟩
  rw [← hkn] at P2 hrp hgp
  rw [← hro] at P3 hrp hgp
  have H4 := Lib.hid P4
  have H5 := Lib.hid P5
  have H6 := Lib.hid P6
  have H7 := Lib.hid P7
  have H8 := Lib.hid P8
  have H2 := Lib.hid P2
  have H3 := Lib.hid P3
  have HGE := Lib.hid hge
  clear P2 P3 P4 P5 P6 P7 P8 hrg hkn hro hge
  cases kn
  case false =>
    have hr1 : rput T l = ([], 1) := by rw [hrp]; rfl
    rw [hr1] at P1
    have H1 := Lib.hid P1
    clear P1 hr1 hrp hgp P9
    go_enter Try.func5, Try.ntmps5
    go_wp2_with fail
    refine (KL.out W hl (Nat.le_refl _)).mono ?_; rintro e w1 ⟨rfl, rfl⟩
    go_wp2_with fail
    refine (H1.out W hT hl (Nat.le_refl _)).mono ?_; rintro e w1 ⟨A5, c5, rfl, hown5, hb1⟩
    dsimp only at hown5 ⊢
    go_wp2_with fail
    refine (H2.out w1 (hT.below hb1)).mono ?_; rintro e w2 ⟨rfl, rfl⟩
    go_wp2_with fail
    refine (H4.out w1 (hT.below hb1) (hb.below hb1) hb1.size).mono ?_; rintro e wg ⟨Ag, cg, rfl, howng, hbg⟩
    dsimp only at howng ⊢
    have hb0g : Below W.heap.size W wg := hb1.trans (hbg.mono hb1.size)
    by_cases he2 : e2 = 0
    case neg =>
      have hm : ms = [] := by
        rcases HGE.out with h | h
        · exact absurd h he2
        · exact h.1
      have heI : ((e2 : Int) != 0) = true := by simp; omega
      subst hm
      clear howng he2
      go_wp2_with fail
      refine (puts_any wg).mono ?_; rintro e w8 ⟨rfl, hb8⟩
      have hb08 : Below W.heap.size W w8 := hb0g.trans (hb8.mono hb0g.size)
      go_wp2_with fail
      go_ret
      exact ⟨rfl, hb08⟩
    subst he2
    have hrdg := rd_own howng
    have J5 := H5.out ms rfl Ag cg wg ((hT.below hb0g).more hb0g.size) hrdg
    rw [H7.out ms rfl] at J5
    have HJ5 := Lib.hid J5
    clear J5
    go_wp2_with fail
    refine HJ5.out.mono ?_; rintro e wh ⟨Ah, ch, rfl, hownh, hbh⟩
    dsimp only at hownh ⊢
    have hb0h : Below W.heap.size W wh := hb0g.trans (hbh.mono hb0g.size)
    have hcv1 := conv_own hownh
    have hcv2 := conv_rd (hb.below hb0h) c2
    have J6 := H6.out ms rfl Ag cg wh ((hT.below hb0h).more hb0h.size) (rd_own (own_bel howng hbh))
    rw [H8.out ms rfl] at J6
    have HJ6 := Lib.hid J6
    clear J6 howng hownh hrdg
    go_wp2_with fail
    refine HJ6.out.mono ?_; rintro e wi ⟨rfl, hbi⟩
    have hb0i : Below W.heap.size W wi := hb0h.trans (hbi.mono hb0h.size)
    go_wp2_with fail
    refine (puts_any wi).mono ?_; rintro e w8 ⟨rfl, hb8⟩
    have hb08 : Below W.heap.size W w8 := hb0i.trans (hb8.mono hb0i.size)
    go_wp2_with fail
    go_ret
    exact ⟨rfl, hb08⟩
  cases ro
  case false =>
    have hr1 : rput T l = ([], 1) := by rw [hrp]; rfl
    rw [hr1] at P1
    have H1 := Lib.hid P1
    clear P1 hr1 hrp hgp P9
    go_enter Try.func5, Try.ntmps5
    go_wp2_with fail
    refine (KL.out W hl (Nat.le_refl _)).mono ?_; rintro e w1 ⟨rfl, rfl⟩
    go_wp2_with fail
    refine (H1.out W hT hl (Nat.le_refl _)).mono ?_; rintro e w1 ⟨A5, c5, rfl, hown5, hb1⟩
    dsimp only at hown5 ⊢
    go_wp2_with fail
    refine (H2.out w1 (hT.below hb1)).mono ?_; rintro e w2 ⟨rfl, rfl⟩
    go_wp2_with fail
    refine (H3.out w1 (hT.below hb1) (hl.below hb1) hb1.size).mono ?_; rintro e w3 ⟨rfl, hb3⟩
    have hb03 : Below W.heap.size W w3 := hb1.trans (hb3.mono hb1.size)
    go_wp2_with fail
    refine (H4.out w3 (hT.below hb03) (hb.below hb03) hb03.size).mono ?_; rintro e wg ⟨Ag, cg, rfl, howng, hbg⟩
    dsimp only at howng ⊢
    have hb0g : Below W.heap.size W wg := hb03.trans (hbg.mono hb03.size)
    by_cases he2 : e2 = 0
    case neg =>
      have hm : ms = [] := by
        rcases HGE.out with h | h
        · exact absurd h he2
        · exact h.1
      have heI : ((e2 : Int) != 0) = true := by simp; omega
      subst hm
      clear howng he2
      go_wp2_with fail
      refine (puts_any wg).mono ?_; rintro e w8 ⟨rfl, hb8⟩
      have hb08 : Below W.heap.size W w8 := hb0g.trans (hb8.mono hb0g.size)
      go_wp2_with fail
      go_ret
      exact ⟨rfl, hb08⟩
    subst he2
    have hrdg := rd_own howng
    have J5 := H5.out ms rfl Ag cg wg ((hT.below hb0g).more hb0g.size) hrdg
    rw [H7.out ms rfl] at J5
    have HJ5 := Lib.hid J5
    clear J5
    go_wp2_with fail
    refine HJ5.out.mono ?_; rintro e wh ⟨Ah, ch, rfl, hownh, hbh⟩
    dsimp only at hownh ⊢
    have hb0h : Below W.heap.size W wh := hb0g.trans (hbh.mono hb0g.size)
    have hcv1 := conv_own hownh
    have hcv2 := conv_rd (hb.below hb0h) c2
    have J6 := H6.out ms rfl Ag cg wh ((hT.below hb0h).more hb0h.size) (rd_own (own_bel howng hbh))
    rw [H8.out ms rfl] at J6
    have HJ6 := Lib.hid J6
    clear J6 howng hownh hrdg
    go_wp2_with fail
    refine HJ6.out.mono ?_; rintro e wi ⟨rfl, hbi⟩
    have hb0i : Below W.heap.size W wi := hb0h.trans (hbi.mono hb0h.size)
    go_wp2_with fail
    refine (puts_any wi).mono ?_; rintro e w8 ⟨rfl, hb8⟩
    have hb08 : Below W.heap.size W w8 := hb0i.trans (hb8.mono hb0i.size)
    go_wp2_with fail
    go_ret
    exact ⟨rfl, hb08⟩
  have hr1 : rput T l = (rbytes l, 0) := by rw [hrp]; rfl
  rw [hr1] at P1
  rw [hgp rfl rfl] at P9
  obtain ⟨bs, hbs⟩ : ∃ x, x = rbytes l := ⟨_, rfl⟩
  rw [← hbs] at P1 P9 hrb
  have H1 := Lib.hid P1
  have H9 := Lib.hid P9
  clear P1 hr1 hrp hgp P9 hbs
  go_enter Try.func5, Try.ntmps5
  go_wp2_with fail
  refine (KL.out W hl (Nat.le_refl _)).mono ?_; rintro e w1 ⟨rfl, rfl⟩
  go_wp2_with fail
  refine (H1.out W hT hl (Nat.le_refl _)).mono ?_; rintro e w1 ⟨A5, c5, rfl, hown5, hb1⟩
  dsimp only at hown5 ⊢
  go_wp2_with fail
  refine (H2.out w1 (hT.below hb1)).mono ?_; rintro e w2 ⟨rfl, rfl⟩
  go_wp2_with fail
  refine (H3.out w1 (hT.below hb1) (hl.below hb1) hb1.size).mono ?_; rintro e w3 ⟨rfl, hb3⟩
  have hb03 : Below W.heap.size W w3 := hb1.trans (hb3.mono hb1.size)
  have hown6 := own_bel hown5 hb3
  go_wp2_with fail
  refine (H9.out A5 c5 w3 ((hT.below hb03).more hb03.size) (rd_own hown6) (own_le hown6)).mono ?_; rintro e w4 ⟨A7, c7, rfl, hown7, hb4⟩
  dsimp only at hown7 ⊢
  have hb04 : Below W.heap.size W w4 := hb03.trans (hb4.mono hb03.size)
  have HS := Lib.hid (Same_any w4.heap.size A7 A' c7 c' l l w4 (rd_own hown7) ((hl.below hb04).more hb04.size) (Nat.le_refl _) (by unfold maxLen; omega))
  clear hown5 hown6 hown7
  go_wp2_with fail
  refine HS.out.mono ?_; rintro e w5 ⟨rfl, hb5⟩
  have hb05 : Below W.heap.size W w5 := hb04.trans (hb5.mono hb04.size)
  go_wp2_with fail
  refine (H4.out w5 (hT.below hb05) (hb.below hb05) hb05.size).mono ?_; rintro e wg ⟨Ag, cg, rfl, howng, hbg⟩
  dsimp only at howng ⊢
  have hb0g : Below W.heap.size W wg := hb05.trans (hbg.mono hb05.size)
  by_cases he2 : e2 = 0
  case neg =>
    have hm : ms = [] := by
      rcases HGE.out with h | h
      · exact absurd h he2
      · exact h.1
    have heI : ((e2 : Int) != 0) = true := by simp; omega
    subst hm
    clear howng he2
    go_wp2_with fail
    refine (puts_any wg).mono ?_; rintro e w8 ⟨rfl, hb8⟩
    have hb08 : Below W.heap.size W w8 := hb0g.trans (hb8.mono hb0g.size)
    go_wp2_with fail
    go_ret
    exact ⟨rfl, hb08⟩
  subst he2
  have hrdg := rd_own howng
  have J5 := H5.out ms rfl Ag cg wg ((hT.below hb0g).more hb0g.size) hrdg
  rw [H7.out ms rfl] at J5
  have HJ5 := Lib.hid J5
  clear J5
  go_wp2_with fail
  refine HJ5.out.mono ?_; rintro e wh ⟨Ah, ch, rfl, hownh, hbh⟩
  dsimp only at hownh ⊢
  have hb0h : Below W.heap.size W wh := hb0g.trans (hbh.mono hb0g.size)
  have hcv1 := conv_own hownh
  have hcv2 := conv_rd (hb.below hb0h) c2
  have J6 := H6.out ms rfl Ag cg wh ((hT.below hb0h).more hb0h.size) (rd_own (own_bel howng hbh))
  rw [H8.out ms rfl] at J6
  have HJ6 := Lib.hid J6
  clear J6 howng hownh hrdg
  go_wp2_with fail
  refine HJ6.out.mono ?_; rintro e wi ⟨rfl, hbi⟩
  have hb0i : Below W.heap.size W wi := hb0h.trans (hbi.mono hb0h.size)
  go_wp2_with fail
  refine (puts_any wi).mono ?_; rintro e w8 ⟨rfl, hb8⟩
  have hb08 : Below W.heap.size W w8 := hb0i.trans (hb8.mono hb0i.size)
  go_wp2_with fail
  go_ret
  exact ⟨rfl, hb08⟩
end Go.Proofs.Ytfnbckgpldkgmaa

/- The law RowApart (layer 4), walked: true for every input. No condition. -/
import Derived.Test.YtfnbckgpldkgmaaRowL3
namespace Go.Proofs.Ytfnbckgpldkgmaa
open Go.RowKit Go.Maps
set_option linter.unusedVariables false
set_option linter.unusedSimpArgs false

/-- cut % L, made not negative -/
def cutAt (z : Int) (L : Nat) : Nat := (if z.tmod (L : Int) < 0 then z.tmod (L : Int) + L else z.tmod (L : Int)).toNat
theorem cut_bd (z : Int) (L : Nat) (hL : 0 < L) : cutAt z L < L ∧ -(L : Int) < z.tmod (L : Int) ∧ z.tmod (L : Int) < (L : Int) := by
  have h1 : z.tmod (L : Int) < (L : Int) := Int.tmod_lt_of_pos _ (by omega)
  have h2 : -(L : Int) < z.tmod (L : Int) := Int.lt_tmod_of_pos _ (by omega)
  unfold cutAt
  split <;> omega

set_option maxHeartbeats 8000000 in
set_option maxRecDepth 100000 in
theorem rowApart_walk (A : Option Addr) (c : Nat) (T : List UInt8) (A' : Option Addr) (c' : Nat) (l : List V) (A2 : Option Addr) (c2 : Nat) (m : List V) (A3 : Option Addr) (c3 : Nat) (b : List UInt8) (z : Int) (W : World) (hT : Rd W W.heap.size A (cells T)) (hTc : T.length ≤ c ∧ c ≤ maxLen)
    (hl : Rd W W.heap.size A' (vcells l)) (hlc : l.length ≤ c' ∧ c' ≤ maxLen) (hokl : ∀ v ∈ l, vok v) (hm : Rd W W.heap.size A2 (vcells m)) (hmc : m.length ≤ c2 ∧ c2 ≤ maxLen) (hokm : ∀ v ∈ m, vok v) (hb : Rd W W.heap.size A3 (cells b)) (hbc : b.length ≤ c3 ∧ c3 ≤ maxLen) (hz : i64r z) :
    Calls Try.prog 6 #[.slice A T.length c, .slice A' l.length c', .slice A2 m.length c2, .slice A3 b.length c3, .int .i64 z] W fun e w' => e = .returned (.bool true) ∧ Below W.heap.size W w' := by
  have KL := Lib.hid (fun w h hB => long_any W.heap.size A A' c c' T l w h hB)
  have KM := Lib.hid (fun w h hB => long_any W.heap.size A A2 c c2 T m w h hB)
  obtain ⟨lg, hlg⟩ : ∃ x, x = lngR T l := ⟨_, rfl⟩
  obtain ⟨lm, hlm⟩ : ∃ x, x = lngR T m := ⟨_, rfl⟩
  rw [← hlg] at KL
  rw [← hlm] at KM
  rcases lg with _ | _
  case true =>
    clear hlg hlm
    go_enter Try.func6, Try.ntmps6
    go_wp2_with fail
    refine (KL.out W hl (Nat.le_refl _)).mono ?_; rintro e w1 ⟨rfl, rfl⟩
    go_wp2_with fail
    go_ret
    exact ⟨rfl, Below.refl _ _⟩
  rcases lm with _ | _
  case true =>
    clear hlg hlm
    go_enter Try.func6, Try.ntmps6
    go_wp2_with fail
    refine (KL.out W hl (Nat.le_refl _)).mono ?_; rintro e w1 ⟨rfl, rfl⟩
    go_wp2_with fail
    refine (KM.out W hm (Nat.le_refl _)).mono ?_; rintro e w1 ⟨rfl, rfl⟩
    go_wp2_with fail
    go_ret
    exact ⟨rfl, Below.refl _ _⟩
  obtain ⟨hT60, hl60, htl⟩ := lngR_false hlg.symm
  obtain ⟨_, hm60, htm⟩ := lngR_false hlm.symm
  by_cases hb2 : 200 < b.length
  · have hI : (200 : Int) < (b.length : Int) := by omega
    clear hlg hlm
    go_enter Try.func6, Try.ntmps6
    go_wp2_with fail
    refine (KL.out W hl (Nat.le_refl _)).mono ?_; rintro e w1 ⟨rfl, rfl⟩
    go_wp2_with fail
    refine (KM.out W hm (Nat.le_refl _)).mono ?_; rintro e w1 ⟨rfl, rfl⟩
    go_wp2_with fail
    go_ret
    exact ⟨rfl, Below.refl _ _⟩
  have hbI : (b.length : Int) ≤ 200 := by omega
  have hrbl := rb_len hl60 hokl htl
  have hrbm := rb_len hm60 hokm htm
  have P1 := fun (w : World) h1 h2 hB => Put_row W.heap.size A A' c c' T l w h1 h2 hB (by omega) (by omega) (vok3 hokl htl) (by omega)
  have P2 := fun (w : World) h1 h2 hB => Put_row W.heap.size A A2 c c2 T m w h1 h2 hB (by omega) (by omega) (vok3 hokm htm) (by omega)
  have OL : ∀ v ∈ l, i64r v.n ∧ v.t.length < 18446744073709551616 := fun v hv => ⟨(hokl v hv).2.1, by have := htl v hv; omega⟩
  have OM : ∀ v ∈ m, i64r v.n ∧ v.t.length < 18446744073709551616 := fun v hv => ⟨(hokm v hv).2.1, by have := htm v hv; omega⟩
  have hpl : rput T l = if knownT T && rowok T l then (rbytes l, 0) else ([], 1) := rfl
  have hpm : rput T m = if knownT T && rowok T m then (rbytes m, 0) else ([], 1) := rfl
  obtain ⟨kl, hkl⟩ : ∃ x, x = (knownT T && rowok T l) := ⟨_, rfl⟩
  obtain ⟨km, hkm⟩ : ∃ x, x = (knownT T && rowok T m) := ⟨_, rfl⟩
  rw [← hkl] at hpl
  rw [← hkm] at hpm
  cases kl
  case false =>
    rw [hpl, if_neg (by simp)] at P1
    obtain ⟨rm, hrm⟩ : ∃ x, x = rput T m := ⟨_, rfl⟩
    rw [← hrm] at P2
    obtain ⟨bm, em⟩ := rm
    have H1 := Lib.hid P1
    have H2 := Lib.hid P2
    clear P1 P2 hlg hlm hpl hpm hkl hkm hrm
    go_enter Try.func6, Try.ntmps6
    go_wp2_with fail
    refine (KL.out W hl (Nat.le_refl _)).mono ?_; rintro e w1 ⟨rfl, rfl⟩
    go_wp2_with fail
    refine (KM.out W hm (Nat.le_refl _)).mono ?_; rintro e w1 ⟨rfl, rfl⟩
    go_wp2_with fail
    refine (H1.out W hT hl (Nat.le_refl _)).mono ?_; rintro e w1 ⟨A5, c5, rfl, hown5, hb1⟩
    go_wp2_with fail
    refine (H2.out w1 (hT.below hb1) (hm.below hb1) hb1.size).mono ?_; rintro e w2 ⟨A6, c6, rfl, hown6, hb2⟩
    dsimp only
    have hb02 : Below W.heap.size W w2 := hb1.trans (hb2.mono hb1.size)
    go_wp2_with fail
    refine (puts_any w2).mono ?_; rintro e w8 ⟨rfl, hb8⟩
    have hb08 : Below W.heap.size W w8 := hb02.trans (hb8.mono hb02.size)
    go_wp2_with fail
    go_ret
    exact ⟨rfl, hb08⟩
  rw [hpl, if_pos rfl] at P1
  obtain ⟨hkT, hrl⟩ : knownT T = true ∧ rowok T l = true := by
    have := hkl.symm; rwa [Bool.and_eq_true] at this
  have P3 := fun (A4 : Option Addr) (c4 : Nat) (x : List UInt8) (w : World) h1 h2 hc hlen => Get_row w.heap.size A A4 c c4 T (rbytes l ++ x) w h1 h2 (Nat.le_refl _) hc (by omega) hlen
  have hg := fun x => row_get_put hkT hrl OL x
  have P4 := fun (A4 : Option Addr) (c4 k : Nat) (w : World) (hk : k < (rbytes l).length) h1 h2 hc => Get_row w.heap.size A A4 c c4 T ((rbytes l).take k) w h1 h2 (Nat.le_refl _) hc (by omega) (by rw [List.length_take]; omega)
  have hcut := fun k (hk : k < (rbytes l).length) => get_cut hkT hrl OL hk
  obtain ⟨bs, hbs⟩ : ∃ x, x = rbytes l := ⟨_, rfl⟩
  have hinj : km = true → (bs = rbytes m ↔ l = m) := fun h => by
    rw [h] at hkm
    have hrm := hkm.symm; rw [Bool.and_eq_true] at hrm
    rw [hbs]; exact rb_inj hkT hrl hrm.2 OL OM
  rw [← hbs] at P1 P3 P4 hg hcut hrbl
  have H1 := Lib.hid P1
  have H3 : Hid (∀ (A4 : Option Addr) (c4 : Nat) (x : List UInt8) (w : World), x ≠ [] → Rd w w.heap.size A (cells T) → Rd w w.heap.size A4 (cells (bs ++ x)) → (bs ++ x).length ≤ c4 → (bs ++ x).length ≤ 4294967296 → Calls Try.prog 14 #[.slice A T.length c, .slice A4 (bs ++ x).length c4] w (RetVE w ([], 21))) := Lib.hid fun A4 c4 x w hx h1 h2 hc hlen => by
    have := P3 A4 c4 x w h1 h2 hc hlen
    rwa [hg x, if_neg hx] at this
  have H4 : Hid (∀ (A4 : Option Addr) (c4 k : Nat) (w : World), k < bs.length → Rd w w.heap.size A (cells T) → Rd w w.heap.size A4 (cells (bs.take k)) → k ≤ c4 → Calls Try.prog 14 #[.slice A T.length c, .slice A4 k c4] w (RetVE w ([], 20))) := Lib.hid fun A4 c4 k w hk h1 h2 hc => by
    have hlen : (bs.take k).length = k := by rw [List.length_take]; omega
    have := P4 A4 c4 k w hk h1 h2 (by omega)
    rwa [hcut k hk, hlen] at this
  have HINJ := Lib.hid hinj
  clear P1 P3 P4 hg hcut hbs hpl hlg hlm hkl hinj hokl hokm htl htm OL OM
  cases km
  case false =>
    rw [hpm, if_neg (by simp)] at P2
    have H2 := Lib.hid P2
    clear P2 hpm hkm
    go_enter Try.func6, Try.ntmps6
    go_wp2_with fail
    refine (KL.out W hl (Nat.le_refl _)).mono ?_; rintro e w1 ⟨rfl, rfl⟩
    go_wp2_with fail
    refine (KM.out W hm (Nat.le_refl _)).mono ?_; rintro e w1 ⟨rfl, rfl⟩
    go_wp2_with fail
    refine (H1.out W hT hl (Nat.le_refl _)).mono ?_; rintro e w1 ⟨A5, c5, rfl, hown5, hb1⟩
    dsimp only at hown5 ⊢
    go_wp2_with fail
    refine (H2.out w1 (hT.below hb1) (hm.below hb1) hb1.size).mono ?_; rintro e w2 ⟨A6, c6, rfl, hown6, hb2⟩
    dsimp only at hown6 ⊢
    have hb02 : Below W.heap.size W w2 := hb1.trans (hb2.mono hb1.size)
    have hown5b := own_bel hown5 hb2
    go_wp2_with fail

    refine ah_start 13 (fun w' => Below w2.heap.size w2 w') rfl (by kernel_rfl) (Below.refl _ _).drew ?_ ; intro hS
    (refine mv_val 0 (v := ?_) rfl (by kernel_rfl) (by kernel_rfl) (by kernel_rfl) (fun _ _ _ h => h) (by rfl) hS ?_ ?_; rotate_left; (focus (intro w hSw; (try dsimp only at hSw); (skip); go_simp; first | done | with_reducible rfl)); simp only [Act.put, List.setIfInBounds_toArray, List.set_cons_zero, List.set_cons_succ])
    (refine mv_val 1 (v := ?_) rfl (by kernel_rfl) (by kernel_rfl) (by kernel_rfl) (fun _ _ _ h => h) (by rfl) hS ?_ ?_; rotate_left; (focus (intro w hSw; (try dsimp only at hSw); (skip); go_simp; first | done | with_reducible rfl)); simp only [Act.put, List.setIfInBounds_toArray, List.set_cons_zero, List.set_cons_succ])
    (refine mv_val 2 (v := ?_) rfl (by kernel_rfl) (by kernel_rfl) (by kernel_rfl) (fun _ _ _ h => h) (by rfl) hS ?_ ?_; rotate_left; (focus (intro w hSw; (try dsimp only at hSw); (skip); go_simp; first | done | with_reducible rfl)); simp only [Act.put, List.setIfInBounds_toArray, List.set_cons_zero, List.set_cons_succ])
    (refine mv_skip 3 rfl (by kernel_rfl) (by kernel_rfl) (by kernel_rfl) (fun _ _ _ h => h) (by rfl) hS ?_; simp only [Act.put, List.setIfInBounds_toArray, List.set_cons_zero, List.set_cons_succ])
    (refine mv_skip 4 rfl (by kernel_rfl) (by kernel_rfl) (by kernel_rfl) (fun _ _ _ h => h) (by rfl) hS ?_; simp only [Act.put, List.setIfInBounds_toArray, List.set_cons_zero, List.set_cons_succ])
    (refine mv_skip 5 rfl (by kernel_rfl) (by kernel_rfl) (by kernel_rfl) (fun _ _ _ h => h) (by rfl) hS ?_; simp only [Act.put, List.setIfInBounds_toArray, List.set_cons_zero, List.set_cons_succ])
    (refine mv_skip 6 rfl (by kernel_rfl) (by kernel_rfl) (by kernel_rfl) (fun _ _ _ h => h) (by rfl) hS ?_; simp only [Act.put, List.setIfInBounds_toArray, List.set_cons_zero, List.set_cons_succ])
    (refine mv_skip 7 rfl (by kernel_rfl) (by kernel_rfl) (by kernel_rfl) (fun _ _ _ h => h) (by rfl) hS ?_; simp only [Act.put, List.setIfInBounds_toArray, List.set_cons_zero, List.set_cons_succ])
    (refine mv_skip 8 rfl (by kernel_rfl) (by kernel_rfl) (by kernel_rfl) (fun _ _ _ h => h) (by rfl) hS ?_; simp only [Act.put, List.setIfInBounds_toArray, List.set_cons_zero, List.set_cons_succ])
    (refine mv_skip 9 rfl (by kernel_rfl) (by kernel_rfl) (by kernel_rfl) (fun _ _ _ h => h) (by rfl) hS ?_; simp only [Act.put, List.setIfInBounds_toArray, List.set_cons_zero, List.set_cons_succ])
    (refine mv_skip 10 rfl (by kernel_rfl) (by kernel_rfl) (by kernel_rfl) (fun _ _ _ h => h) (by rfl) hS ?_; simp only [Act.put, List.setIfInBounds_toArray, List.set_cons_zero, List.set_cons_succ])
    (refine mv_skip 11 rfl (by kernel_rfl) (by kernel_rfl) (by kernel_rfl) (fun _ _ _ h => h) (by rfl) hS ?_; simp only [Act.put, List.setIfInBounds_toArray, List.set_cons_zero, List.set_cons_succ])
    (refine mv_val 12 (v := ?_) rfl (by kernel_rfl) (by kernel_rfl) (by kernel_rfl) (fun _ _ _ h => h) (by rfl) hS ?_ ?_; rotate_left; (focus (intro w hSw; (try dsimp only at hSw); (skip); go_simp; first | done | with_reducible rfl)); simp only [Act.put, List.setIfInBounds_toArray, List.set_cons_zero, List.set_cons_succ])
    refine wpAnyH_done (by kernel_rfl) ?_ _
    obtain ⟨w3, hw3⟩ : ∃ w3, w3 = w2.drew := ⟨_, rfl⟩
    rw [← hw3] at hS ⊢
    clear hw3 hown6
    have hb03 : Below W.heap.size W w3 := hb02.trans (hS.mono hb02.size)
    have hown3 := own_bel hown5b hS
    have hle5 := own_le hown3
    by_cases hbe : b = []
    case pos =>
      subst hbe
      by_cases hbs0 : bs.length = 0
      · have hI0 : ((bs.length : Int) == 0) = true := by rw [hbs0]; rfl
        clear hbs0
        go_wp2_with fail
        refine (puts_any w3).mono ?_; rintro e w8 ⟨rfl, hb8⟩
        have hb08 : Below W.heap.size W w8 := hb03.trans (hb8.mono hb03.size)
        go_wp2_with fail
        go_ret
        exact ⟨rfl, hb08⟩
      have hI0 : ((bs.length : Int) == 0) = false := beq_eq_false_iff_ne.2 (by omega)
      have hpos : 0 < bs.length := by omega
      obtain ⟨hk, hr1, hr2⟩ := cut_bd z bs.length hpos
      obtain ⟨k, hkk⟩ : ∃ k, k = cutAt z bs.length := ⟨_, rfl⟩
      rw [← hkk] at hk
      have hrd := (rd_own hown3).take k
      have hrd2 : Rd w3 w3.heap.size A5 (cells (bs.take k)) := by unfold cells at *; rw [List.map_take]; exact hrd
      unfold cutAt at hkk
      clear hbs0 hrd
      by_cases hneg : z.tmod (bs.length : Int) < 0
      · have hkI : z.tmod (bs.length : Int) + (bs.length : Int) = (k : Int) := by rw [if_pos hneg] at hkk; omega
        have hsl := fun w' => upto_any (A := A5) (n := bs.length) (c := c5) k (by omega) hle5 w' (z.tmod (bs.length : Int) + (bs.length : Int)) hkI
        have H4b := H4.out A5 c5 k w3 hk ((hT.below hb03).more hb03.size) hrd2 (by omega)
        have HH := Lib.hid H4b
        clear hkk hkI H4b
        go_wp2_with fail
        refine HH.out.mono ?_; rintro e w7 ⟨A7, c7, rfl, hown7, hb7⟩
        dsimp only
        have hb07 : Below W.heap.size W w7 := hb03.trans (hb7.mono hb03.size)
        go_wp2_with fail
        refine (puts_any w7).mono ?_; rintro e w8 ⟨rfl, hb8⟩
        have hb08 : Below W.heap.size W w8 := hb07.trans (hb8.mono hb07.size)
        go_wp2_with fail
        go_ret
        exact ⟨rfl, hb08⟩
      · have hkI : z.tmod (bs.length : Int) = (k : Int) := by rw [if_neg hneg] at hkk; omega
        have hnn : 0 ≤ z.tmod (bs.length : Int) := by omega
        have hsl := fun w' => upto_any (A := A5) (n := bs.length) (c := c5) k (by omega) hle5 w' (z.tmod (bs.length : Int)) hkI
        have H4b := H4.out A5 c5 k w3 hk ((hT.below hb03).more hb03.size) hrd2 (by omega)
        have HH := Lib.hid H4b
        clear hkk hkI H4b hneg
        go_wp2_with fail
        refine HH.out.mono ?_; rintro e w7 ⟨A7, c7, rfl, hown7, hb7⟩
        dsimp only
        have hb07 : Below W.heap.size W w7 := hb03.trans (hb7.mono hb03.size)
        go_wp2_with fail
        refine (puts_any w7).mono ?_; rintro e w8 ⟨rfl, hb8⟩
        have hb08 : Below W.heap.size W w8 := hb07.trans (hb8.mono hb07.size)
        go_wp2_with fail
        go_ret
        exact ⟨rfl, hb08⟩
    have hbp : (0 : Int) < (b.length : Int) := by
      have : 0 < b.length := List.length_pos_iff.2 hbe
      omega
    have hlen5 : (bs ++ b).length ≤ 26000 := by rw [List.length_append]; omega
    have H3b := fun (A4 : Option Addr) (c4 : Nat) (w : World) h1 h2 h3 => H3.out A4 c4 b w hbe h1 h2 h3 (by omega)
    obtain ⟨x, hx⟩ : ∃ x, x = bs ++ b := ⟨_, rfl⟩
    have hxc : cells x = cells bs ++ cells b := by rw [hx, cells_append]
    have hxl : x.length = bs.length + b.length := by rw [hx, List.length_append]
    rw [← hx] at H3b
    have HH3 := Lib.hid H3b
    have HXC := Lib.hid hxc
    have HXL := Lib.hid hxl
    have hsz3 := hb03.size
    clear H3b hx hxc hxl hlen5
    go_wp2_with (first
      | (at_builtin; refine wpList_app El_u8 rfl _ _ rfl hown4 rfl rfl (hb.below hb04) (by simp) (cells_one b) (by unfold maxLen; omega) (by omega) hb34.size ?_; intro v5 w5 hown5x hg5 _; have hb05 : Below W.heap.size W w5 := hb04.trans (own_below hown4' hg5 hb04.size); have hb35 : Below w3.heap.size w3 w5 := hb34.trans (own_below hown4 hg5 hb34.size); rw [← HXC.out, ← HXL.out] at hown5x; obtain ⟨A8, c8, rfl, hc8⟩ := own_form hown5x)
      | (at_builtin; refine wpList_app El_u8 rfl _ _ rfl (lit0_u8 w3) rfl rfl ((rd_own hown3).alloc (Nat.le_refl _) _) (by simp) (cells_one bs) (by unfold maxLen; omega) (by omega) (by simp) ?_; intro v4 w4 hown4 hg4 _; rw [Nat.zero_add, List.nil_append] at hown4; have hb34 : Below w3.heap.size w3 w4 := ((Below.refl _ _).alloc (Nat.le_refl _) _).trans (own_below (lit0_u8 w3) hg4 (by simp)); have hb04 : Below W.heap.size W w4 := hb03.trans (hb34.mono hb03.size); have hown4' := own_lower hown4 hsz3))
    have J3 := HH3.out A8 c8 w5 ((hT.below hb05).more hb05.size) (rd_own hown5x) hc8
    have HJ3 := Lib.hid J3
    clear J3 hown4 hown4' hown5x
    refine HJ3.out.mono ?_; rintro e w6 ⟨A9, c9, rfl, hown9, hb6⟩
    dsimp only
    have hb36 : Below w3.heap.size w3 w6 := hb35.trans (hb6.mono hb35.size)
    have hb06 : Below W.heap.size W w6 := hb03.trans (hb36.mono hb03.size)
    have hown6x := own_bel hown3 hb36
    clear hown9 hown3
    by_cases hbs0 : bs.length = 0
    · have hI0 : ((bs.length : Int) == 0) = true := by rw [hbs0]; rfl
      clear hbs0
      go_wp2_with fail
      refine (puts_any w6).mono ?_; rintro e w8 ⟨rfl, hb8⟩
      have hb08 : Below W.heap.size W w8 := hb06.trans (hb8.mono hb06.size)
      go_wp2_with fail
      go_ret
      exact ⟨rfl, hb08⟩
    have hI0 : ((bs.length : Int) == 0) = false := beq_eq_false_iff_ne.2 (by omega)
    have hpos : 0 < bs.length := by omega
    obtain ⟨hk, hr1, hr2⟩ := cut_bd z bs.length hpos
    obtain ⟨k, hkk⟩ : ∃ k, k = cutAt z bs.length := ⟨_, rfl⟩
    rw [← hkk] at hk
    have hrd := (rd_own hown6x).take k
    have hrd2 : Rd w6 w6.heap.size A5 (cells (bs.take k)) := by unfold cells at *; rw [List.map_take]; exact hrd
    unfold cutAt at hkk
    clear hbs0 hrd
    by_cases hneg : z.tmod (bs.length : Int) < 0
    · have hkI : z.tmod (bs.length : Int) + (bs.length : Int) = (k : Int) := by rw [if_pos hneg] at hkk; omega
      have hsl := fun w' => upto_any (A := A5) (n := bs.length) (c := c5) k (by omega) hle5 w' (z.tmod (bs.length : Int) + (bs.length : Int)) hkI
      have H4b := H4.out A5 c5 k w6 hk ((hT.below hb06).more hb06.size) hrd2 (by omega)
      have HH := Lib.hid H4b
      clear hkk hkI H4b
      go_wp2_with fail
      refine HH.out.mono ?_; rintro e w7 ⟨A7, c7, rfl, hown7, hb7⟩
      dsimp only
      have hb07 : Below W.heap.size W w7 := hb06.trans (hb7.mono hb06.size)
      go_wp2_with fail
      refine (puts_any w7).mono ?_; rintro e w8 ⟨rfl, hb8⟩
      have hb08 : Below W.heap.size W w8 := hb07.trans (hb8.mono hb07.size)
      go_wp2_with fail
      go_ret
      exact ⟨rfl, hb08⟩
    · have hkI : z.tmod (bs.length : Int) = (k : Int) := by rw [if_neg hneg] at hkk; omega
      have hnn : 0 ≤ z.tmod (bs.length : Int) := by omega
      have hsl := fun w' => upto_any (A := A5) (n := bs.length) (c := c5) k (by omega) hle5 w' (z.tmod (bs.length : Int)) hkI
      have H4b := H4.out A5 c5 k w6 hk ((hT.below hb06).more hb06.size) hrd2 (by omega)
      have HH := Lib.hid H4b
      clear hkk hkI H4b hneg
      go_wp2_with fail
      refine HH.out.mono ?_; rintro e w7 ⟨A7, c7, rfl, hown7, hb7⟩
      dsimp only
      have hb07 : Below W.heap.size W w7 := hb06.trans (hb7.mono hb06.size)
      go_wp2_with fail
      refine (puts_any w7).mono ?_; rintro e w8 ⟨rfl, hb8⟩
      have hb08 : Below W.heap.size W w8 := hb07.trans (hb8.mono hb07.size)
      go_wp2_with fail
      go_ret
      exact ⟨rfl, hb08⟩
  rw [hpm, if_pos rfl] at P2
  obtain ⟨bm, hbm⟩ : ∃ x, x = rbytes m := ⟨_, rfl⟩
  rw [← hbm] at P2 hrbm HINJ
  have H2 := Lib.hid P2
  clear P2 hpm hkm hbm
  go_enter Try.func6, Try.ntmps6
  go_wp2_with fail
  refine (KL.out W hl (Nat.le_refl _)).mono ?_; rintro e w1 ⟨rfl, rfl⟩
  go_wp2_with fail
  refine (KM.out W hm (Nat.le_refl _)).mono ?_; rintro e w1 ⟨rfl, rfl⟩
  go_wp2_with fail
  refine (H1.out W hT hl (Nat.le_refl _)).mono ?_; rintro e w1 ⟨A5, c5, rfl, hown5, hb1⟩
  dsimp only at hown5 ⊢
  go_wp2_with fail
  refine (H2.out w1 (hT.below hb1) (hm.below hb1) hb1.size).mono ?_; rintro e w2 ⟨A6, c6, rfl, hown6, hb2⟩
  dsimp only at hown6 ⊢
  have hb02 : Below W.heap.size W w2 := hb1.trans (hb2.mono hb1.size)
  have hown5b := own_bel hown5 hb2
  go_wp2_with fail

  have HS := Lib.hid (fun w' (h : Below w2.heap.size w2 w') => Same_any W.heap.size A' A2 c' c2 l m w' (hl.below (hb02.trans (h.mono hb02.size))) (hm.below (hb02.trans (h.mono hb02.size))) (Nat.le_trans hb02.size h.size) (by unfold maxLen; omega))
  have CV1 := fun w' (h : Below w2.heap.size w2 w') => conv_own (own_bel hown5b h)
  have CV2 := fun w' (h : Below w2.heap.size w2 w') => conv_own (own_bel hown6 h)
  have hiff := HINJ.out (by first | rfl | trivial)
  refine ah_start 13 (fun w' => Below w2.heap.size w2 w') rfl (by kernel_rfl) (Below.refl _ _).drew ?_ ; intro hS
  (refine mv_val 0 (v := ?_) rfl (by kernel_rfl) (by kernel_rfl) (by kernel_rfl) (fun _ _ _ h => h) (by rfl) hS ?_ ?_; rotate_left; (focus (intro w hSw; (try dsimp only at hSw); (have f1 := CV1 w hSw; have f2 := CV2 w hSw); go_simp; first | done | with_reducible rfl)); simp only [Act.put, List.setIfInBounds_toArray, List.set_cons_zero, List.set_cons_succ])
  (refine mv_val 1 (v := ?_) rfl (by kernel_rfl) (by kernel_rfl) (by kernel_rfl) (fun _ _ _ h => h) (by rfl) hS ?_ ?_; rotate_left; (focus (intro w hSw; (try dsimp only at hSw); (have f1 := CV1 w hSw; have f2 := CV2 w hSw); go_simp; first | done | with_reducible rfl)); simp only [Act.put, List.setIfInBounds_toArray, List.set_cons_zero, List.set_cons_succ])
  (refine mv_val 2 (v := ?_) rfl (by kernel_rfl) (by kernel_rfl) (by kernel_rfl) (fun _ _ _ h => h) (by rfl) hS ?_ ?_; rotate_left; (focus (intro w hSw; (try dsimp only at hSw); (have f1 := CV1 w hSw; have f2 := CV2 w hSw); go_simp; first | done | with_reducible rfl)); simp only [Act.put, List.setIfInBounds_toArray, List.set_cons_zero, List.set_cons_succ])
  (refine mv_val 3 (v := ?_) rfl (by kernel_rfl) (by kernel_rfl) (by kernel_rfl) (fun _ _ _ h => h) (by rfl) hS ?_ ?_; rotate_left; (focus (intro w hSw; (try dsimp only at hSw); (have f1 := CV1 w hSw; have f2 := CV2 w hSw); go_simp; first | done | with_reducible rfl)); simp only [Act.put, List.setIfInBounds_toArray, List.set_cons_zero, List.set_cons_succ])
  (refine mv_val 4 (v := ?_) rfl (by kernel_rfl) (by kernel_rfl) (by kernel_rfl) (fun _ _ _ h => h) (by rfl) hS ?_ ?_; rotate_left; (focus (intro w hSw; (try dsimp only at hSw); (have f1 := CV1 w hSw; have f2 := CV2 w hSw); go_simp; first | done | with_reducible rfl)); simp only [Act.put, List.setIfInBounds_toArray, List.set_cons_zero, List.set_cons_succ])
  (refine mv_val 5 (v := ?_) rfl (by kernel_rfl) (by kernel_rfl) (by kernel_rfl) (fun _ _ _ h => h) (by rfl) hS ?_ ?_; rotate_left; (focus (intro w hSw; (try dsimp only at hSw); (have f1 := CV1 w hSw; have f2 := CV2 w hSw); go_simp; first | done | with_reducible rfl)); simp only [Act.put, List.setIfInBounds_toArray, List.set_cons_zero, List.set_cons_succ])
  (refine mv_val 6 (v := ?_) rfl (by kernel_rfl) (by kernel_rfl) (by kernel_rfl) (fun _ _ _ h => h) (by rfl) hS ?_ ?_; rotate_left; (focus (intro w hSw; (try dsimp only at hSw); (have f1 := CV1 w hSw; have f2 := CV2 w hSw); go_simp; first | done | with_reducible rfl)); simp only [Act.put, List.setIfInBounds_toArray, List.set_cons_zero, List.set_cons_succ])
  (refine mv_val 7 (v := ?_) rfl (by kernel_rfl) (by kernel_rfl) (by kernel_rfl) (fun _ _ _ h => h) (by rfl) hS ?_ ?_; rotate_left; (focus (intro w hSw; (try dsimp only at hSw); (have f1 := CV1 w hSw; have f2 := CV2 w hSw); go_simp; first | done | with_reducible rfl)); simp only [Act.put, List.setIfInBounds_toArray, List.set_cons_zero, List.set_cons_succ])
  (refine mv_val 8 (v := ?_) rfl (by kernel_rfl) (by kernel_rfl) (by kernel_rfl) (fun _ _ _ h => h) (by rfl) hS ?_ ?_; rotate_left; (focus (intro w hSw; (try dsimp only at hSw); (have f1 := CV1 w hSw; have f2 := CV2 w hSw); go_simp; first | done | with_reducible rfl)); simp only [Act.put, List.setIfInBounds_toArray, List.set_cons_zero, List.set_cons_succ])
  (refine mv_val 9 (v := ?_) rfl (by kernel_rfl) (by kernel_rfl) (by kernel_rfl) (fun _ _ _ h => h) (by rfl) hS ?_ ?_; rotate_left; (focus (intro w hSw; (try dsimp only at hSw); (have f1 := CV1 w hSw; have f2 := CV2 w hSw); go_simp; first | done | with_reducible rfl)); simp only [Act.put, List.setIfInBounds_toArray, List.set_cons_zero, List.set_cons_succ])
  (refine mv_call 10 (f := ?_) (args := ?_) rfl (by kernel_rfl) (by rfl) ?_ ?_; rotate_left 2; (focus (go_simp; first | done | with_reducible rfl | (refine ⟨?_, ?_⟩ <;> with_reducible rfl))))
  refine (HS.out _ hS).mono ?_; rintro e w3 ⟨rfl, hb3⟩
  have hS3 : Below w2.heap.size w2 w3 := hS.trans (hb3.mono hS.size)
  refine ⟨_, rfl, hS3, ?_⟩
  replace hS := hS3
  clear hS3
  simp only [Act.put, List.setIfInBounds_toArray, List.set_cons_zero, List.set_cons_succ]
  (refine mv_val 11 (v := ?_) rfl (by kernel_rfl) (by kernel_rfl) (by kernel_rfl) (fun _ _ _ h => h) (by rfl) hS ?_ ?_; rotate_left; (focus (intro w hSw; (try dsimp only at hSw); (have f1 := CV1 w hSw; have f2 := CV2 w hSw); go_simp; first | done | with_reducible rfl)); simp only [Act.put, List.setIfInBounds_toArray, List.set_cons_zero, List.set_cons_succ])
  (refine mv_val 12 (v := ?_) rfl (by kernel_rfl) (by kernel_rfl) (by kernel_rfl) (fun _ _ _ h => h) (by rfl) hS ?_ ?_; rotate_left; (focus (intro w hSw; (try dsimp only at hSw); (have f1 := CV1 w hSw; have f2 := CV2 w hSw); go_simp; first | done | with_reducible rfl)); simp only [Act.put, List.setIfInBounds_toArray, List.set_cons_zero, List.set_cons_succ])
  refine wpAnyH_done (by kernel_rfl) ?_ _
  have hq : (!((bs == bm) == decide (l = m))) = false := by
    have hbb : (bs == bm) = decide (l = m) := by
      by_cases h : bs = bm
      · rw [decide_eq_true (hiff.1 h), h]; simp
      · rw [decide_eq_false (fun e => h (hiff.2 e))]; simp [h]
    rw [hbb]
    simp
  rw [hq]
  clear hq CV1 CV2 hown6 hiff
  have hb03 : Below W.heap.size W w3 := hb02.trans (hS.mono hb02.size)
  have hown3 := own_bel hown5b hS
  have hle5 := own_le hown3
  by_cases hbe : b = []
  case pos =>
    subst hbe
    by_cases hbs0 : bs.length = 0
    · have hI0 : ((bs.length : Int) == 0) = true := by rw [hbs0]; rfl
      clear hbs0
      go_wp2_with fail
      refine (puts_any w3).mono ?_; rintro e w8 ⟨rfl, hb8⟩
      have hb08 : Below W.heap.size W w8 := hb03.trans (hb8.mono hb03.size)
      go_wp2_with fail
      go_ret
      exact ⟨rfl, hb08⟩
    have hI0 : ((bs.length : Int) == 0) = false := beq_eq_false_iff_ne.2 (by omega)
    have hpos : 0 < bs.length := by omega
    obtain ⟨hk, hr1, hr2⟩ := cut_bd z bs.length hpos
    obtain ⟨k, hkk⟩ : ∃ k, k = cutAt z bs.length := ⟨_, rfl⟩
    rw [← hkk] at hk
    have hrd := (rd_own hown3).take k
    have hrd2 : Rd w3 w3.heap.size A5 (cells (bs.take k)) := by unfold cells at *; rw [List.map_take]; exact hrd
    unfold cutAt at hkk
    clear hbs0 hrd
    by_cases hneg : z.tmod (bs.length : Int) < 0
    · have hkI : z.tmod (bs.length : Int) + (bs.length : Int) = (k : Int) := by rw [if_pos hneg] at hkk; omega
      have hsl := fun w' => upto_any (A := A5) (n := bs.length) (c := c5) k (by omega) hle5 w' (z.tmod (bs.length : Int) + (bs.length : Int)) hkI
      have H4b := H4.out A5 c5 k w3 hk ((hT.below hb03).more hb03.size) hrd2 (by omega)
      have HH := Lib.hid H4b
      clear hkk hkI H4b
      go_wp2_with fail
      refine HH.out.mono ?_; rintro e w7 ⟨A7, c7, rfl, hown7, hb7⟩
      dsimp only
      have hb07 : Below W.heap.size W w7 := hb03.trans (hb7.mono hb03.size)
      go_wp2_with fail
      refine (puts_any w7).mono ?_; rintro e w8 ⟨rfl, hb8⟩
      have hb08 : Below W.heap.size W w8 := hb07.trans (hb8.mono hb07.size)
      go_wp2_with fail
      go_ret
      exact ⟨rfl, hb08⟩
    · have hkI : z.tmod (bs.length : Int) = (k : Int) := by rw [if_neg hneg] at hkk; omega
      have hnn : 0 ≤ z.tmod (bs.length : Int) := by omega
      have hsl := fun w' => upto_any (A := A5) (n := bs.length) (c := c5) k (by omega) hle5 w' (z.tmod (bs.length : Int)) hkI
      have H4b := H4.out A5 c5 k w3 hk ((hT.below hb03).more hb03.size) hrd2 (by omega)
      have HH := Lib.hid H4b
      clear hkk hkI H4b hneg
      go_wp2_with fail
      refine HH.out.mono ?_; rintro e w7 ⟨A7, c7, rfl, hown7, hb7⟩
      dsimp only
      have hb07 : Below W.heap.size W w7 := hb03.trans (hb7.mono hb03.size)
      go_wp2_with fail
      refine (puts_any w7).mono ?_; rintro e w8 ⟨rfl, hb8⟩
      have hb08 : Below W.heap.size W w8 := hb07.trans (hb8.mono hb07.size)
      go_wp2_with fail
      go_ret
      exact ⟨rfl, hb08⟩
  have hbp : (0 : Int) < (b.length : Int) := by
    have : 0 < b.length := List.length_pos_iff.2 hbe
    omega
  have hlen5 : (bs ++ b).length ≤ 26000 := by rw [List.length_append]; omega
  have H3b := fun (A4 : Option Addr) (c4 : Nat) (w : World) h1 h2 h3 => H3.out A4 c4 b w hbe h1 h2 h3 (by omega)
  obtain ⟨x, hx⟩ : ∃ x, x = bs ++ b := ⟨_, rfl⟩
  have hxc : cells x = cells bs ++ cells b := by rw [hx, cells_append]
  have hxl : x.length = bs.length + b.length := by rw [hx, List.length_append]
  rw [← hx] at H3b
  have HH3 := Lib.hid H3b
  have HXC := Lib.hid hxc
  have HXL := Lib.hid hxl
  have hsz3 := hb03.size
  clear H3b hx hxc hxl hlen5
  go_wp2_with (first
    | (at_builtin; refine wpList_app El_u8 rfl _ _ rfl hown4 rfl rfl (hb.below hb04) (by simp) (cells_one b) (by unfold maxLen; omega) (by omega) hb34.size ?_; intro v5 w5 hown5x hg5 _; have hb05 : Below W.heap.size W w5 := hb04.trans (own_below hown4' hg5 hb04.size); have hb35 : Below w3.heap.size w3 w5 := hb34.trans (own_below hown4 hg5 hb34.size); rw [← HXC.out, ← HXL.out] at hown5x; obtain ⟨A8, c8, rfl, hc8⟩ := own_form hown5x)
    | (at_builtin; refine wpList_app El_u8 rfl _ _ rfl (lit0_u8 w3) rfl rfl ((rd_own hown3).alloc (Nat.le_refl _) _) (by simp) (cells_one bs) (by unfold maxLen; omega) (by omega) (by simp) ?_; intro v4 w4 hown4 hg4 _; rw [Nat.zero_add, List.nil_append] at hown4; have hb34 : Below w3.heap.size w3 w4 := ((Below.refl _ _).alloc (Nat.le_refl _) _).trans (own_below (lit0_u8 w3) hg4 (by simp)); have hb04 : Below W.heap.size W w4 := hb03.trans (hb34.mono hb03.size); have hown4' := own_lower hown4 hsz3))
  have J3 := HH3.out A8 c8 w5 ((hT.below hb05).more hb05.size) (rd_own hown5x) hc8
  have HJ3 := Lib.hid J3
  clear J3 hown4 hown4' hown5x
  refine HJ3.out.mono ?_; rintro e w6 ⟨A9, c9, rfl, hown9, hb6⟩
  dsimp only
  have hb36 : Below w3.heap.size w3 w6 := hb35.trans (hb6.mono hb35.size)
  have hb06 : Below W.heap.size W w6 := hb03.trans (hb36.mono hb03.size)
  have hown6x := own_bel hown3 hb36
  clear hown9 hown3
  by_cases hbs0 : bs.length = 0
  · have hI0 : ((bs.length : Int) == 0) = true := by rw [hbs0]; rfl
    clear hbs0
    go_wp2_with fail
    refine (puts_any w6).mono ?_; rintro e w8 ⟨rfl, hb8⟩
    have hb08 : Below W.heap.size W w8 := hb06.trans (hb8.mono hb06.size)
    go_wp2_with fail
    go_ret
    exact ⟨rfl, hb08⟩
  have hI0 : ((bs.length : Int) == 0) = false := beq_eq_false_iff_ne.2 (by omega)
  have hpos : 0 < bs.length := by omega
  obtain ⟨hk, hr1, hr2⟩ := cut_bd z bs.length hpos
  obtain ⟨k, hkk⟩ : ∃ k, k = cutAt z bs.length := ⟨_, rfl⟩
  rw [← hkk] at hk
  have hrd := (rd_own hown6x).take k
  have hrd2 : Rd w6 w6.heap.size A5 (cells (bs.take k)) := by unfold cells at *; rw [List.map_take]; exact hrd
  unfold cutAt at hkk
  clear hbs0 hrd
  by_cases hneg : z.tmod (bs.length : Int) < 0
  · have hkI : z.tmod (bs.length : Int) + (bs.length : Int) = (k : Int) := by rw [if_pos hneg] at hkk; omega
    have hsl := fun w' => upto_any (A := A5) (n := bs.length) (c := c5) k (by omega) hle5 w' (z.tmod (bs.length : Int) + (bs.length : Int)) hkI
    have H4b := H4.out A5 c5 k w6 hk ((hT.below hb06).more hb06.size) hrd2 (by omega)
    have HH := Lib.hid H4b
    clear hkk hkI H4b
    go_wp2_with fail
    refine HH.out.mono ?_; rintro e w7 ⟨A7, c7, rfl, hown7, hb7⟩
    dsimp only
    have hb07 : Below W.heap.size W w7 := hb06.trans (hb7.mono hb06.size)
    go_wp2_with fail
    refine (puts_any w7).mono ?_; rintro e w8 ⟨rfl, hb8⟩
    have hb08 : Below W.heap.size W w8 := hb07.trans (hb8.mono hb07.size)
    go_wp2_with fail
    go_ret
    exact ⟨rfl, hb08⟩
  · have hkI : z.tmod (bs.length : Int) = (k : Int) := by rw [if_neg hneg] at hkk; omega
    have hnn : 0 ≤ z.tmod (bs.length : Int) := by omega
    have hsl := fun w' => upto_any (A := A5) (n := bs.length) (c := c5) k (by omega) hle5 w' (z.tmod (bs.length : Int)) hkI
    have H4b := H4.out A5 c5 k w6 hk ((hT.below hb06).more hb06.size) hrd2 (by omega)
    have HH := Lib.hid H4b
    clear hkk hkI H4b hneg
    go_wp2_with fail
    refine HH.out.mono ?_; rintro e w7 ⟨A7, c7, rfl, hown7, hb7⟩
    dsimp only
    have hb07 : Below W.heap.size W w7 := hb06.trans (hb7.mono hb06.size)
    go_wp2_with fail
    refine (puts_any w7).mono ?_; rintro e w8 ⟨rfl, hb8⟩
    have hb08 : Below W.heap.size W w8 := hb07.trans (hb8.mono hb07.size)
    go_wp2_with fail
    go_ret
    exact ⟨rfl, hb08⟩
end Go.Proofs.Ytfnbckgpldkgmaa

/- The law ColumnApart (layer 6), walked: true for every input. No condition. -/
import Derived.Test.YtiijnfakphhbeaaColL4
namespace Go.Proofs.Ytiijnfakphhbeaa
open Go.RowKit Go.Maps
set_option linter.unusedVariables false
set_option linter.unusedSimpArgs false

/-- cut % L, made not negative -/
def cutAt (z : Int) (L : Nat) : Nat := (if z.tmod (L : Int) < 0 then z.tmod (L : Int) + L else z.tmod (L : Int)).toNat
theorem cut_bd (z : Int) (L : Nat) (hL : 0 < L) : cutAt z L < L ∧ -(L : Int) < z.tmod (L : Int) ∧ z.tmod (L : Int) < (L : Int) := by
  have h1 : z.tmod (L : Int) < (L : Int) := Int.tmod_lt_of_pos _ (by omega)
  have h2 : -(L : Int) < z.tmod (L : Int) := Int.lt_tmod_of_pos _ (by omega)
  unfold cutAt
  split <;> omega
theorem apart_sz {n L : Nat} (hn : n ≤ 500) (hL : L ≤ 2200200) : 0 ≤ (n : Int) → (n : Int) ≤ 65536 → ((n : Int).toNat + 1) * (L + 10) ≤ 4000000000 := fun _ _ =>
  Nat.le_trans (Nat.mul_le_mul (show (n : Int).toNat + 1 ≤ 501 by omega) (show L + 10 ≤ 2200210 by omega)) (by decide)

set_option maxHeartbeats 16000000 in
set_option maxRecDepth 100000 in
theorem columnApart_walk (a : Int) (A : Option Addr) (c : Nat) (l : List V) (A2 : Option Addr) (c2 : Nat) (m : List V) (A3 : Option Addr) (c3 : Nat) (b : List UInt8) (z : Int) (W : World) (ha : 0 ≤ a ∧ a < 256)
    (hl : Rd W W.heap.size A (vcells l)) (hlc : l.length ≤ c ∧ c ≤ maxLen) (hokl : ∀ v ∈ l, vok v) (hm : Rd W W.heap.size A2 (vcells m)) (hmc : m.length ≤ c2 ∧ c2 ≤ maxLen) (hokm : ∀ v ∈ m, vok v) (hb : Rd W W.heap.size A3 (cells b)) (hbc : b.length ≤ c3 ∧ c3 ≤ maxLen) (hz : -9223372036854775808 ≤ z ∧ z ≤ 9223372036854775807) :
    Calls Try.prog 6 #[.int .u8 a, .slice A l.length c, .slice A2 m.length c2, .slice A3 b.length c3, .int .i64 z] W fun e w' => e = .returned (.bool true) ∧ Below W.heap.size W w' := by
  obtain ⟨t, hta⟩ := kind_of ha
  rw [hta]
  clear hta ha
  have KL := Lib.hid (fun w h hB => long_any W.heap.size A c l w h hB)
  have KM := Lib.hid (fun w h hB => long_any W.heap.size A2 c2 m w h hB)
  obtain ⟨lg, hlg⟩ : ∃ x, x = lng l := ⟨_, rfl⟩
  obtain ⟨lm, hlm⟩ : ∃ x, x = lng m := ⟨_, rfl⟩
  rw [← hlg] at KL
  rw [← hlm] at KM
  rcases lg with _ | _
  case true =>
    clear hlg hlm
    go_enter Try.func6, Try.ntmps6
    go_wp2_with fail
    refine (KL.out W hl (Nat.le_refl _)).mono ?_; rintro e w1 ⟨rfl, rfl⟩
    go_wp2_with fail
    go_ret
    exact ⟨rfl, Below.refl _ _⟩
  rcases lm with _ | _
  case true =>
    clear hlg hlm
    go_enter Try.func6, Try.ntmps6
    go_wp2_with fail
    refine (KL.out W hl (Nat.le_refl _)).mono ?_; rintro e w1 ⟨rfl, rfl⟩
    go_wp2_with fail
    refine (KM.out W hm (Nat.le_refl _)).mono ?_; rintro e w1 ⟨rfl, rfl⟩
    go_wp2_with fail
    go_ret
    exact ⟨rfl, Below.refl _ _⟩
  obtain ⟨hl5, htl⟩ := lng_false hlg.symm
  obtain ⟨hm5, htm⟩ := lng_false hlm.symm
  by_cases hb2 : 200 < b.length
  · have hI : (200 : Int) < (b.length : Int) := by omega
    clear hlg hlm
    go_enter Try.func6, Try.ntmps6
    go_wp2_with fail
    refine (KL.out W hl (Nat.le_refl _)).mono ?_; rintro e w1 ⟨rfl, rfl⟩
    go_wp2_with fail
    refine (KM.out W hm (Nat.le_refl _)).mono ?_; rintro e w1 ⟨rfl, rfl⟩
    go_wp2_with fail
    go_ret
    exact ⟨rfl, Below.refl _ _⟩
  have hbI : (b.length : Int) ≤ 200 := by omega
  obtain ⟨sl1, sl2⟩ := sizes_of (t := t) hokl htl
  obtain ⟨sm1, sm2⟩ := sizes_of (t := t) hokm htm
  have P1 := cput_any t A c l W hl (vsm_of hokl htl) (by omega) sl1 sl2
  have P2 := fun (w : World) h1 => cput_any t A2 c2 m w h1 (vsm_of hokm htm) (by omega) sm1 sm2
  have hrbl := cput_len (t := t) hokl htl hl5
  have hrbm := cput_len (t := t) hokm htm hm5
  have OL := vsz_of hokl
  have OM := vsz_of hokm
  obtain ⟨kl, hkl⟩ : ∃ x, x = colok t l := ⟨_, rfl⟩
  obtain ⟨km, hkm⟩ : ∃ x, x = colok t m := ⟨_, rfl⟩
  cases kl
  case false =>
    rw [cput_no hkl.symm] at P1
    obtain ⟨rm, hrm⟩ : ∃ x, x = cput t m := ⟨_, rfl⟩
    rw [← hrm] at P2
    obtain ⟨bm, em⟩ := rm
    have H1 := Lib.hid P1
    have H2 := Lib.hid P2
    clear P1 P2 hlg hlm hkl hkm hrm hrbl hrbm OL OM sl1 sl2 sm1 sm2 hokl hokm htl htm
    go_enter Try.func6, Try.ntmps6
    go_wp2_with fail
    refine (KL.out W hl (Nat.le_refl _)).mono ?_; rintro e w1 ⟨rfl, rfl⟩
    go_wp2_with fail
    refine (KM.out W hm (Nat.le_refl _)).mono ?_; rintro e w1 ⟨rfl, rfl⟩
    go_wp2_with fail
    refine H1.out.mono ?_; rintro e w1 ⟨A5, c5, rfl, hown5, hb1⟩
    go_wp2_with fail
    refine (H2.out w1 ((hm.below hb1).more hb1.size)).mono ?_; rintro e w2 ⟨A6, c6, rfl, hown6, hb2⟩
    dsimp only
    have hb02 : Below W.heap.size W w2 := hb1.trans (hb2.mono hb1.size)
    go_wp2_with fail
    refine (puts_any w2).mono ?_; rintro e w8 ⟨rfl, hb8⟩
    have hb08 : Below W.heap.size W w8 := hb02.trans (hb8.mono hb02.size)
    go_wp2_with fail
    go_ret
    exact ⟨rfl, hb08⟩
  have hg3 := fun (h : b ≠ []) => (cget_put hkl.symm OL b).2 h
  have hcut := fun k (hk : k < (cput t l).1.length) => cget_cut hkl.symm OL hk (by omega)
  have hel : (cput t l).2 = 0 := by rw [cput_of hkl.symm]
  have hinj : km = true → l.length = m.length → ((cput t l).1 = (cput t m).1 ↔ l = m) := fun h hlen => by
    subst h
    exact ⟨fun e => cput_inj hkl.symm hkm.symm OL OM hlen e, fun e => by rw [e]⟩
  have hem : (cput t m).2 = if km then 0 else 1 := by
    cases km
    · rw [cput_no hkm.symm]; rfl
    · rw [cput_of hkm.symm]; rfl
  obtain ⟨rl, hrl⟩ : ∃ x, x = cput t l := ⟨_, rfl⟩
  obtain ⟨rm, hrm⟩ : ∃ x, x = cput t m := ⟨_, rfl⟩
  rw [← hrl] at P1 hg3 hcut hel hinj hrbl
  rw [← hrm] at P2 hinj hem hrbm
  obtain ⟨bs, el⟩ := rl
  obtain ⟨bm, em⟩ := rm
  dsimp only at hg3 hcut hel hinj hrbl hem hrbm
  subst hel
  have H1 := Lib.hid P1
  have P3 := fun (A4 : Option Addr) (c4 : Nat) (w : World) h1 hc => cget_any w.heap.size A4 c4 t (bs ++ b) (l.length : Int) w h1 hc (Nat.le_refl _) (by unfold i64r; omega) (by rw [List.length_append]; omega) (apart_sz hl5 (by rw [List.length_append]; omega))
  obtain ⟨r3, hr3⟩ : ∃ x, x = cget t (bs ++ b) (l.length : Int) := ⟨_, rfl⟩
  rw [← hr3] at P3 hg3
  obtain ⟨m3, e3⟩ := r3
  dsimp only at hg3
  have H3 := Lib.hid P3
  have HG3 := Lib.hid hg3
  have H4 : Hid (∀ (A4 : Option Addr) (c4 k : Nat) (w : World), k < bs.length → Rd w w.heap.size A4 (cells (bs.take k)) → k ≤ c4 → ∃ r : List V × Nat, r.2 ≠ 0 ∧ Calls Try.prog 16 #[b8 t, .slice A4 k c4, .int .i64 (l.length : Int)] w (RetVE w r)) := Lib.hid fun A4 c4 k w hk h1 hc => by
    have hlen : (bs.take k).length = k := by rw [List.length_take]; omega
    refine ⟨cget t (bs.take k) (l.length : Int), hcut k hk, ?_⟩
    have := cget_any w.heap.size A4 c4 t (bs.take k) (l.length : Int) w h1 (by omega) (Nat.le_refl _) (by unfold i64r; omega) (by omega) (apart_sz hl5 (by omega))
    rwa [hlen] at this
  have HINJ := Lib.hid hinj
  have H2 := Lib.hid P2
  clear P1 P2 P3 hg3 hcut hlg hlm hkl hkm hinj hokl hokm htl htm OL OM hrl hrm hr3 sl1 sl2 sm1 sm2
  cases km
  case false =>
    rw [if_neg (by simp)] at hem
    subst hem
    go_enter Try.func6, Try.ntmps6
    go_wp2_with fail
    refine (KL.out W hl (Nat.le_refl _)).mono ?_; rintro e w1 ⟨rfl, rfl⟩
    go_wp2_with fail
    refine (KM.out W hm (Nat.le_refl _)).mono ?_; rintro e w1 ⟨rfl, rfl⟩
    go_wp2_with fail
    refine H1.out.mono ?_; rintro e w1 ⟨A5, c5, rfl, hown5, hb1⟩
    dsimp only at hown5 ⊢
    go_wp2_with fail
    refine (H2.out w1 ((hm.below hb1).more hb1.size)).mono ?_; rintro e w2 ⟨A6, c6, rfl, hown6, hb2⟩
    dsimp only at hown6 ⊢
    have hb02 : Below W.heap.size W w2 := hb1.trans (hb2.mono hb1.size)
    have hown5b := own_bel hown5 hb2
    go_wp2_with fail

    refine ah_start 20 (fun w' => Below w2.heap.size w2 w') rfl (by kernel_rfl) (Below.refl _ _).drew ?_ ; intro hS
    (refine mv_val 0 (v := ?_) rfl (by kernel_rfl) (by kernel_rfl) (by kernel_rfl) (fun _ _ _ h => h) (by rfl) hS ?_ ?_; rotate_left; (focus (intro w hSw; (try dsimp only at hSw); (skip); go_simp; first | done | with_reducible rfl)); simp only [Act.put, List.setIfInBounds_toArray, List.set_cons_zero, List.set_cons_succ])
    (refine mv_val 1 (v := ?_) rfl (by kernel_rfl) (by kernel_rfl) (by kernel_rfl) (fun _ _ _ h => h) (by rfl) hS ?_ ?_; rotate_left; (focus (intro w hSw; (try dsimp only at hSw); (skip); go_simp; first | done | with_reducible rfl)); simp only [Act.put, List.setIfInBounds_toArray, List.set_cons_zero, List.set_cons_succ])
    (refine mv_val 2 (v := ?_) rfl (by kernel_rfl) (by kernel_rfl) (by kernel_rfl) (fun _ _ _ h => h) (by rfl) hS ?_ ?_; rotate_left; (focus (intro w hSw; (try dsimp only at hSw); (skip); go_simp; first | done | with_reducible rfl)); simp only [Act.put, List.setIfInBounds_toArray, List.set_cons_zero, List.set_cons_succ])
    (refine mv_skip 3 rfl (by kernel_rfl) (by kernel_rfl) (by kernel_rfl) (fun _ _ _ h => h) (by rfl) hS ?_; simp only [Act.put, List.setIfInBounds_toArray, List.set_cons_zero, List.set_cons_succ])
    (refine mv_skip 4 rfl (by kernel_rfl) (by kernel_rfl) (by kernel_rfl) (fun _ _ _ h => h) (by rfl) hS ?_; simp only [Act.put, List.setIfInBounds_toArray, List.set_cons_zero, List.set_cons_succ])
    (refine mv_skip 5 rfl (by kernel_rfl) (by kernel_rfl) (by kernel_rfl) (fun _ _ _ h => h) (by rfl) hS ?_; simp only [Act.put, List.setIfInBounds_toArray, List.set_cons_zero, List.set_cons_succ])
    (refine mv_skip 6 rfl (by kernel_rfl) (by kernel_rfl) (by kernel_rfl) (fun _ _ _ h => h) (by rfl) hS ?_; simp only [Act.put, List.setIfInBounds_toArray, List.set_cons_zero, List.set_cons_succ])
    (refine mv_skip 7 rfl (by kernel_rfl) (by kernel_rfl) (by kernel_rfl) (fun _ _ _ h => h) (by rfl) hS ?_; simp only [Act.put, List.setIfInBounds_toArray, List.set_cons_zero, List.set_cons_succ])
    (refine mv_val 8 (v := ?_) rfl (by kernel_rfl) (by kernel_rfl) (by kernel_rfl) (fun _ _ _ h => h) (by rfl) hS ?_ ?_; rotate_left; (focus (intro w hSw; (try dsimp only at hSw); (skip); go_simp; first | done | with_reducible rfl)); simp only [Act.put, List.setIfInBounds_toArray, List.set_cons_zero, List.set_cons_succ])
    (refine mv_val 9 (v := ?_) rfl (by kernel_rfl) (by kernel_rfl) (by kernel_rfl) (fun _ _ _ h => h) (by rfl) hS ?_ ?_; rotate_left; (focus (intro w hSw; (try dsimp only at hSw); (skip); go_simp; first | done | with_reducible rfl)); simp only [Act.put, List.setIfInBounds_toArray, List.set_cons_zero, List.set_cons_succ])
    (refine mv_skip 10 rfl (by kernel_rfl) (by kernel_rfl) (by kernel_rfl) (fun _ _ _ h => h) (by rfl) hS ?_; simp only [Act.put, List.setIfInBounds_toArray, List.set_cons_zero, List.set_cons_succ])
    (refine mv_skip 11 rfl (by kernel_rfl) (by kernel_rfl) (by kernel_rfl) (fun _ _ _ h => h) (by rfl) hS ?_; simp only [Act.put, List.setIfInBounds_toArray, List.set_cons_zero, List.set_cons_succ])
    (refine mv_skip 12 rfl (by kernel_rfl) (by kernel_rfl) (by kernel_rfl) (fun _ _ _ h => h) (by rfl) hS ?_; simp only [Act.put, List.setIfInBounds_toArray, List.set_cons_zero, List.set_cons_succ])
    (refine mv_skip 13 rfl (by kernel_rfl) (by kernel_rfl) (by kernel_rfl) (fun _ _ _ h => h) (by rfl) hS ?_; simp only [Act.put, List.setIfInBounds_toArray, List.set_cons_zero, List.set_cons_succ])
    (refine mv_skip 14 rfl (by kernel_rfl) (by kernel_rfl) (by kernel_rfl) (fun _ _ _ h => h) (by rfl) hS ?_; simp only [Act.put, List.setIfInBounds_toArray, List.set_cons_zero, List.set_cons_succ])
    (refine mv_skip 15 rfl (by kernel_rfl) (by kernel_rfl) (by kernel_rfl) (fun _ _ _ h => h) (by rfl) hS ?_; simp only [Act.put, List.setIfInBounds_toArray, List.set_cons_zero, List.set_cons_succ])
    (refine mv_skip 16 rfl (by kernel_rfl) (by kernel_rfl) (by kernel_rfl) (fun _ _ _ h => h) (by rfl) hS ?_; simp only [Act.put, List.setIfInBounds_toArray, List.set_cons_zero, List.set_cons_succ])
    (refine mv_skip 17 rfl (by kernel_rfl) (by kernel_rfl) (by kernel_rfl) (fun _ _ _ h => h) (by rfl) hS ?_; simp only [Act.put, List.setIfInBounds_toArray, List.set_cons_zero, List.set_cons_succ])
    (refine mv_skip 18 rfl (by kernel_rfl) (by kernel_rfl) (by kernel_rfl) (fun _ _ _ h => h) (by rfl) hS ?_; simp only [Act.put, List.setIfInBounds_toArray, List.set_cons_zero, List.set_cons_succ])
    (refine mv_val 19 (v := ?_) rfl (by kernel_rfl) (by kernel_rfl) (by kernel_rfl) (fun _ _ _ h => h) (by rfl) hS ?_ ?_; rotate_left; (focus (intro w hSw; (try dsimp only at hSw); (skip); go_simp; first | done | with_reducible rfl)); simp only [Act.put, List.setIfInBounds_toArray, List.set_cons_zero, List.set_cons_succ])
    refine wpAnyH_done (by kernel_rfl) ?_ _
    obtain ⟨w3, hw3⟩ : ∃ w3, w3 = w2.drew := ⟨_, rfl⟩
    rw [← hw3] at hS ⊢
    clear hw3 hown6
    have hb03 : Below W.heap.size W w3 := hb02.trans (hS.mono hb02.size)
    have hown3 := own_bel hown5b hS
    have hle5 := own_le hown3
    by_cases hbe : b = []
    case pos =>
      subst hbe
      by_cases hbs0 : bs.length = 0
      · have hI0 : ((bs.length : Int) == 0) = true := by rw [hbs0]; rfl
        clear hbs0
        go_wp2_with fail
        refine (puts_any w3).mono ?_; rintro e w8 ⟨rfl, hb8⟩
        have hb08 : Below W.heap.size W w8 := hb03.trans (hb8.mono hb03.size)
        go_wp2_with fail
        go_ret
        exact ⟨rfl, hb08⟩
      have hI0 : ((bs.length : Int) == 0) = false := beq_eq_false_iff_ne.2 (by omega)
      have hpos : 0 < bs.length := by omega
      obtain ⟨hk, hr1, hr2⟩ := cut_bd z bs.length hpos
      obtain ⟨k, hkk⟩ : ∃ k, k = cutAt z bs.length := ⟨_, rfl⟩
      rw [← hkk] at hk
      have hrd := (rd_own hown3).take k
      have hrd2 : Rd w3 w3.heap.size A5 (cells (bs.take k)) := by unfold cells at *; rw [List.map_take]; exact hrd
      unfold cutAt at hkk
      clear hbs0 hrd
      obtain ⟨⟨m4, e4⟩, he4, H4b⟩ := H4.out A5 c5 k w3 hk hrd2 (by omega)
      have he4I : ((e4 : Int) != 0) = true := by simp; exact he4
      have HH := Lib.hid H4b
      clear H4b he4
      by_cases hneg : z.tmod (bs.length : Int) < 0
      · have hkI : z.tmod (bs.length : Int) + (bs.length : Int) = (k : Int) := by rw [if_pos hneg] at hkk; omega
        have hsl := fun w' => upto_any (A := A5) (n := bs.length) (c := c5) k (by omega) hle5 w' (z.tmod (bs.length : Int) + (bs.length : Int)) hkI
        clear hkk hkI
        go_wp2_with fail
        refine HH.out.mono ?_; rintro e w7 ⟨A7, c7, rfl, hown7, hb7⟩
        dsimp only
        have hb07 : Below W.heap.size W w7 := hb03.trans (hb7.mono hb03.size)
        go_wp2_with fail
        refine (puts_any w7).mono ?_; rintro e w8 ⟨rfl, hb8⟩
        have hb08 : Below W.heap.size W w8 := hb07.trans (hb8.mono hb07.size)
        go_wp2_with fail
        go_ret
        exact ⟨rfl, hb08⟩
      · have hkI : z.tmod (bs.length : Int) = (k : Int) := by rw [if_neg hneg] at hkk; omega
        have hnn : 0 ≤ z.tmod (bs.length : Int) := by omega
        have hsl := fun w' => upto_any (A := A5) (n := bs.length) (c := c5) k (by omega) hle5 w' (z.tmod (bs.length : Int)) hkI
        clear hkk hkI hneg
        go_wp2_with fail
        refine HH.out.mono ?_; rintro e w7 ⟨A7, c7, rfl, hown7, hb7⟩
        dsimp only
        have hb07 : Below W.heap.size W w7 := hb03.trans (hb7.mono hb03.size)
        go_wp2_with fail
        refine (puts_any w7).mono ?_; rintro e w8 ⟨rfl, hb8⟩
        have hb08 : Below W.heap.size W w8 := hb07.trans (hb8.mono hb07.size)
        go_wp2_with fail
        go_ret
        exact ⟨rfl, hb08⟩
    have hbp : (0 : Int) < (b.length : Int) := by
      have : 0 < b.length := List.length_pos_iff.2 hbe
      omega
    have hxc : cells (bs ++ b) = cells bs ++ cells b := by rw [cells_append]
    have hxl : (bs ++ b).length = bs.length + b.length := by rw [List.length_append]
    have he3 := HG3.out hbe
    have he3I : ((e3 : Int) == 0) = false := by simp; exact he3
    obtain ⟨x, hx⟩ : ∃ x, x = bs ++ b := ⟨_, rfl⟩
    have HH3 := H3
    rw [← hx] at HH3 hxc hxl
    have HXC := Lib.hid hxc
    have HXL := Lib.hid hxl
    have hsz3 := hb03.size
    clear hx hxc hxl he3
    go_wp2_with (first
      | (at_builtin; refine wpList_app El_u8 rfl _ _ rfl hown4 rfl rfl (hb.below hb04) (by simp) (cells_one b) (by unfold maxLen; omega) (by omega) hb34.size ?_; intro v5 w5 hown5x hg5 _; have hb05 : Below W.heap.size W w5 := hb04.trans (own_below hown4' hg5 hb04.size); have hb35 : Below w3.heap.size w3 w5 := hb34.trans (own_below hown4 hg5 hb34.size); rw [← HXC.out, ← HXL.out] at hown5x; obtain ⟨A8, c8, rfl, hc8⟩ := own_form hown5x)
      | (at_builtin; refine wpList_app El_u8 rfl _ _ rfl (lit0_u8 w3) rfl rfl ((rd_own hown3).alloc (Nat.le_refl _) _) (by simp) (cells_one bs) (by unfold maxLen; omega) (by omega) (by simp) ?_; intro v4 w4 hown4 hg4 _; rw [Nat.zero_add, List.nil_append] at hown4; have hb34 : Below w3.heap.size w3 w4 := ((Below.refl _ _).alloc (Nat.le_refl _) _).trans (own_below (lit0_u8 w3) hg4 (by simp)); have hb04 : Below W.heap.size W w4 := hb03.trans (hb34.mono hb03.size); have hown4' := own_lower hown4 hsz3))
    have J3 := HH3.out A8 c8 w5 (rd_own hown5x) hc8
    have HJ3 := Lib.hid J3
    clear J3 hown4 hown4' hown5x
    refine HJ3.out.mono ?_; rintro e w6 ⟨A9, c9, rfl, hown9, hb6⟩
    dsimp only
    have hb36 : Below w3.heap.size w3 w6 := hb35.trans (hb6.mono hb35.size)
    have hb06 : Below W.heap.size W w6 := hb03.trans (hb36.mono hb03.size)
    have hown6x := own_bel hown3 hb36
    clear hown9 hown3
    by_cases hbs0 : bs.length = 0
    · have hI0 : ((bs.length : Int) == 0) = true := by rw [hbs0]; rfl
      clear hbs0
      go_wp2_with fail
      refine (puts_any w6).mono ?_; rintro e w8 ⟨rfl, hb8⟩
      have hb08 : Below W.heap.size W w8 := hb06.trans (hb8.mono hb06.size)
      go_wp2_with fail
      go_ret
      exact ⟨rfl, hb08⟩
    have hI0 : ((bs.length : Int) == 0) = false := beq_eq_false_iff_ne.2 (by omega)
    have hpos : 0 < bs.length := by omega
    obtain ⟨hk, hr1, hr2⟩ := cut_bd z bs.length hpos
    obtain ⟨k, hkk⟩ : ∃ k, k = cutAt z bs.length := ⟨_, rfl⟩
    rw [← hkk] at hk
    have hrd := (rd_own hown6x).take k
    have hrd2 : Rd w6 w6.heap.size A5 (cells (bs.take k)) := by unfold cells at *; rw [List.map_take]; exact hrd
    unfold cutAt at hkk
    clear hbs0 hrd
    obtain ⟨⟨m4, e4⟩, he4, H4b⟩ := H4.out A5 c5 k w6 hk hrd2 (by omega)
    have he4I : ((e4 : Int) != 0) = true := by simp; exact he4
    have HH := Lib.hid H4b
    clear H4b he4
    by_cases hneg : z.tmod (bs.length : Int) < 0
    · have hkI : z.tmod (bs.length : Int) + (bs.length : Int) = (k : Int) := by rw [if_pos hneg] at hkk; omega
      have hsl := fun w' => upto_any (A := A5) (n := bs.length) (c := c5) k (by omega) hle5 w' (z.tmod (bs.length : Int) + (bs.length : Int)) hkI
      clear hkk hkI
      go_wp2_with fail
      refine HH.out.mono ?_; rintro e w7 ⟨A7, c7, rfl, hown7, hb7⟩
      dsimp only
      have hb07 : Below W.heap.size W w7 := hb06.trans (hb7.mono hb06.size)
      go_wp2_with fail
      refine (puts_any w7).mono ?_; rintro e w8 ⟨rfl, hb8⟩
      have hb08 : Below W.heap.size W w8 := hb07.trans (hb8.mono hb07.size)
      go_wp2_with fail
      go_ret
      exact ⟨rfl, hb08⟩
    · have hkI : z.tmod (bs.length : Int) = (k : Int) := by rw [if_neg hneg] at hkk; omega
      have hnn : 0 ≤ z.tmod (bs.length : Int) := by omega
      have hsl := fun w' => upto_any (A := A5) (n := bs.length) (c := c5) k (by omega) hle5 w' (z.tmod (bs.length : Int)) hkI
      clear hkk hkI hneg
      go_wp2_with fail
      refine HH.out.mono ?_; rintro e w7 ⟨A7, c7, rfl, hown7, hb7⟩
      dsimp only
      have hb07 : Below W.heap.size W w7 := hb06.trans (hb7.mono hb06.size)
      go_wp2_with fail
      refine (puts_any w7).mono ?_; rintro e w8 ⟨rfl, hb8⟩
      have hb08 : Below W.heap.size W w8 := hb07.trans (hb8.mono hb07.size)
      go_wp2_with fail
      go_ret
      exact ⟨rfl, hb08⟩
  rw [if_pos rfl] at hem
  subst hem
  by_cases hlm : l.length = m.length
  case neg =>
    have hlmI : ((l.length : Int) == (m.length : Int)) = false := by simp; omega
    clear hlm
    go_enter Try.func6, Try.ntmps6
    go_wp2_with fail
    refine (KL.out W hl (Nat.le_refl _)).mono ?_; rintro e w1 ⟨rfl, rfl⟩
    go_wp2_with fail
    refine (KM.out W hm (Nat.le_refl _)).mono ?_; rintro e w1 ⟨rfl, rfl⟩
    go_wp2_with fail
    refine H1.out.mono ?_; rintro e w1 ⟨A5, c5, rfl, hown5, hb1⟩
    dsimp only at hown5 ⊢
    go_wp2_with fail
    refine (H2.out w1 ((hm.below hb1).more hb1.size)).mono ?_; rintro e w2 ⟨A6, c6, rfl, hown6, hb2⟩
    dsimp only at hown6 ⊢
    have hb02 : Below W.heap.size W w2 := hb1.trans (hb2.mono hb1.size)
    have hown5b := own_bel hown5 hb2
    go_wp2_with fail

    refine ah_start 20 (fun w' => Below w2.heap.size w2 w') rfl (by kernel_rfl) (Below.refl _ _).drew ?_ ; intro hS
    (refine mv_val 0 (v := ?_) rfl (by kernel_rfl) (by kernel_rfl) (by kernel_rfl) (fun _ _ _ h => h) (by rfl) hS ?_ ?_; rotate_left; (focus (intro w hSw; (try dsimp only at hSw); (have f3 := hlmI); go_simp; first | done | with_reducible rfl)); simp only [Act.put, List.setIfInBounds_toArray, List.set_cons_zero, List.set_cons_succ])
    (refine mv_val 1 (v := ?_) rfl (by kernel_rfl) (by kernel_rfl) (by kernel_rfl) (fun _ _ _ h => h) (by rfl) hS ?_ ?_; rotate_left; (focus (intro w hSw; (try dsimp only at hSw); (have f3 := hlmI); go_simp; first | done | with_reducible rfl)); simp only [Act.put, List.setIfInBounds_toArray, List.set_cons_zero, List.set_cons_succ])
    (refine mv_val 2 (v := ?_) rfl (by kernel_rfl) (by kernel_rfl) (by kernel_rfl) (fun _ _ _ h => h) (by rfl) hS ?_ ?_; rotate_left; (focus (intro w hSw; (try dsimp only at hSw); (have f3 := hlmI); go_simp; first | done | with_reducible rfl)); simp only [Act.put, List.setIfInBounds_toArray, List.set_cons_zero, List.set_cons_succ])
    (refine mv_val 3 (v := ?_) rfl (by kernel_rfl) (by kernel_rfl) (by kernel_rfl) (fun _ _ _ h => h) (by rfl) hS ?_ ?_; rotate_left; (focus (intro w hSw; (try dsimp only at hSw); (have f3 := hlmI); go_simp; first | done | with_reducible rfl)); simp only [Act.put, List.setIfInBounds_toArray, List.set_cons_zero, List.set_cons_succ])
    (refine mv_val 4 (v := ?_) rfl (by kernel_rfl) (by kernel_rfl) (by kernel_rfl) (fun _ _ _ h => h) (by rfl) hS ?_ ?_; rotate_left; (focus (intro w hSw; (try dsimp only at hSw); (have f3 := hlmI); go_simp; first | done | with_reducible rfl)); simp only [Act.put, List.setIfInBounds_toArray, List.set_cons_zero, List.set_cons_succ])
    (refine mv_val 5 (v := ?_) rfl (by kernel_rfl) (by kernel_rfl) (by kernel_rfl) (fun _ _ _ h => h) (by rfl) hS ?_ ?_; rotate_left; (focus (intro w hSw; (try dsimp only at hSw); (have f3 := hlmI); go_simp; first | done | with_reducible rfl)); simp only [Act.put, List.setIfInBounds_toArray, List.set_cons_zero, List.set_cons_succ])
    (refine mv_val 6 (v := ?_) rfl (by kernel_rfl) (by kernel_rfl) (by kernel_rfl) (fun _ _ _ h => h) (by rfl) hS ?_ ?_; rotate_left; (focus (intro w hSw; (try dsimp only at hSw); (have f3 := hlmI); go_simp; first | done | with_reducible rfl)); simp only [Act.put, List.setIfInBounds_toArray, List.set_cons_zero, List.set_cons_succ])
    (refine mv_val 7 (v := ?_) rfl (by kernel_rfl) (by kernel_rfl) (by kernel_rfl) (fun _ _ _ h => h) (by rfl) hS ?_ ?_; rotate_left; (focus (intro w hSw; (try dsimp only at hSw); (have f3 := hlmI); go_simp; first | done | with_reducible rfl)); simp only [Act.put, List.setIfInBounds_toArray, List.set_cons_zero, List.set_cons_succ])
    (refine mv_val 8 (v := ?_) rfl (by kernel_rfl) (by kernel_rfl) (by kernel_rfl) (fun _ _ _ h => h) (by rfl) hS ?_ ?_; rotate_left; (focus (intro w hSw; (try dsimp only at hSw); (have f3 := hlmI); go_simp; first | done | with_reducible rfl)); simp only [Act.put, List.setIfInBounds_toArray, List.set_cons_zero, List.set_cons_succ])
    (refine mv_val 9 (v := ?_) rfl (by kernel_rfl) (by kernel_rfl) (by kernel_rfl) (fun _ _ _ h => h) (by rfl) hS ?_ ?_; rotate_left; (focus (intro w hSw; (try dsimp only at hSw); (have f3 := hlmI); go_simp; first | done | with_reducible rfl)); simp only [Act.put, List.setIfInBounds_toArray, List.set_cons_zero, List.set_cons_succ])
    (refine mv_skip 10 rfl (by kernel_rfl) (by kernel_rfl) (by kernel_rfl) (fun _ _ _ h => h) (by rfl) hS ?_; simp only [Act.put, List.setIfInBounds_toArray, List.set_cons_zero, List.set_cons_succ])
    (refine mv_skip 11 rfl (by kernel_rfl) (by kernel_rfl) (by kernel_rfl) (fun _ _ _ h => h) (by rfl) hS ?_; simp only [Act.put, List.setIfInBounds_toArray, List.set_cons_zero, List.set_cons_succ])
    (refine mv_skip 12 rfl (by kernel_rfl) (by kernel_rfl) (by kernel_rfl) (fun _ _ _ h => h) (by rfl) hS ?_; simp only [Act.put, List.setIfInBounds_toArray, List.set_cons_zero, List.set_cons_succ])
    (refine mv_skip 13 rfl (by kernel_rfl) (by kernel_rfl) (by kernel_rfl) (fun _ _ _ h => h) (by rfl) hS ?_; simp only [Act.put, List.setIfInBounds_toArray, List.set_cons_zero, List.set_cons_succ])
    (refine mv_skip 14 rfl (by kernel_rfl) (by kernel_rfl) (by kernel_rfl) (fun _ _ _ h => h) (by rfl) hS ?_; simp only [Act.put, List.setIfInBounds_toArray, List.set_cons_zero, List.set_cons_succ])
    (refine mv_skip 15 rfl (by kernel_rfl) (by kernel_rfl) (by kernel_rfl) (fun _ _ _ h => h) (by rfl) hS ?_; simp only [Act.put, List.setIfInBounds_toArray, List.set_cons_zero, List.set_cons_succ])
    (refine mv_skip 16 rfl (by kernel_rfl) (by kernel_rfl) (by kernel_rfl) (fun _ _ _ h => h) (by rfl) hS ?_; simp only [Act.put, List.setIfInBounds_toArray, List.set_cons_zero, List.set_cons_succ])
    (refine mv_skip 17 rfl (by kernel_rfl) (by kernel_rfl) (by kernel_rfl) (fun _ _ _ h => h) (by rfl) hS ?_; simp only [Act.put, List.setIfInBounds_toArray, List.set_cons_zero, List.set_cons_succ])
    (refine mv_skip 18 rfl (by kernel_rfl) (by kernel_rfl) (by kernel_rfl) (fun _ _ _ h => h) (by rfl) hS ?_; simp only [Act.put, List.setIfInBounds_toArray, List.set_cons_zero, List.set_cons_succ])
    (refine mv_val 19 (v := ?_) rfl (by kernel_rfl) (by kernel_rfl) (by kernel_rfl) (fun _ _ _ h => h) (by rfl) hS ?_ ?_; rotate_left; (focus (intro w hSw; (try dsimp only at hSw); (have f3 := hlmI); go_simp; first | done | with_reducible rfl)); simp only [Act.put, List.setIfInBounds_toArray, List.set_cons_zero, List.set_cons_succ])
    refine wpAnyH_done (by kernel_rfl) ?_ _
    obtain ⟨w3, hw3⟩ : ∃ w3, w3 = w2.drew := ⟨_, rfl⟩
    rw [← hw3] at hS ⊢
    clear hw3 hown6
    have hb03 : Below W.heap.size W w3 := hb02.trans (hS.mono hb02.size)
    have hown3 := own_bel hown5b hS
    have hle5 := own_le hown3
    by_cases hbe : b = []
    case pos =>
      subst hbe
      by_cases hbs0 : bs.length = 0
      · have hI0 : ((bs.length : Int) == 0) = true := by rw [hbs0]; rfl
        clear hbs0
        go_wp2_with fail
        refine (puts_any w3).mono ?_; rintro e w8 ⟨rfl, hb8⟩
        have hb08 : Below W.heap.size W w8 := hb03.trans (hb8.mono hb03.size)
        go_wp2_with fail
        go_ret
        exact ⟨rfl, hb08⟩
      have hI0 : ((bs.length : Int) == 0) = false := beq_eq_false_iff_ne.2 (by omega)
      have hpos : 0 < bs.length := by omega
      obtain ⟨hk, hr1, hr2⟩ := cut_bd z bs.length hpos
      obtain ⟨k, hkk⟩ : ∃ k, k = cutAt z bs.length := ⟨_, rfl⟩
      rw [← hkk] at hk
      have hrd := (rd_own hown3).take k
      have hrd2 : Rd w3 w3.heap.size A5 (cells (bs.take k)) := by unfold cells at *; rw [List.map_take]; exact hrd
      unfold cutAt at hkk
      clear hbs0 hrd
      obtain ⟨⟨m4, e4⟩, he4, H4b⟩ := H4.out A5 c5 k w3 hk hrd2 (by omega)
      have he4I : ((e4 : Int) != 0) = true := by simp; exact he4
      have HH := Lib.hid H4b
      clear H4b he4
      by_cases hneg : z.tmod (bs.length : Int) < 0
      · have hkI : z.tmod (bs.length : Int) + (bs.length : Int) = (k : Int) := by rw [if_pos hneg] at hkk; omega
        have hsl := fun w' => upto_any (A := A5) (n := bs.length) (c := c5) k (by omega) hle5 w' (z.tmod (bs.length : Int) + (bs.length : Int)) hkI
        clear hkk hkI
        go_wp2_with fail
        refine HH.out.mono ?_; rintro e w7 ⟨A7, c7, rfl, hown7, hb7⟩
        dsimp only
        have hb07 : Below W.heap.size W w7 := hb03.trans (hb7.mono hb03.size)
        go_wp2_with fail
        refine (puts_any w7).mono ?_; rintro e w8 ⟨rfl, hb8⟩
        have hb08 : Below W.heap.size W w8 := hb07.trans (hb8.mono hb07.size)
        go_wp2_with fail
        go_ret
        exact ⟨rfl, hb08⟩
      · have hkI : z.tmod (bs.length : Int) = (k : Int) := by rw [if_neg hneg] at hkk; omega
        have hnn : 0 ≤ z.tmod (bs.length : Int) := by omega
        have hsl := fun w' => upto_any (A := A5) (n := bs.length) (c := c5) k (by omega) hle5 w' (z.tmod (bs.length : Int)) hkI
        clear hkk hkI hneg
        go_wp2_with fail
        refine HH.out.mono ?_; rintro e w7 ⟨A7, c7, rfl, hown7, hb7⟩
        dsimp only
        have hb07 : Below W.heap.size W w7 := hb03.trans (hb7.mono hb03.size)
        go_wp2_with fail
        refine (puts_any w7).mono ?_; rintro e w8 ⟨rfl, hb8⟩
        have hb08 : Below W.heap.size W w8 := hb07.trans (hb8.mono hb07.size)
        go_wp2_with fail
        go_ret
        exact ⟨rfl, hb08⟩
    have hbp : (0 : Int) < (b.length : Int) := by
      have : 0 < b.length := List.length_pos_iff.2 hbe
      omega
    have hxc : cells (bs ++ b) = cells bs ++ cells b := by rw [cells_append]
    have hxl : (bs ++ b).length = bs.length + b.length := by rw [List.length_append]
    have he3 := HG3.out hbe
    have he3I : ((e3 : Int) == 0) = false := by simp; exact he3
    obtain ⟨x, hx⟩ : ∃ x, x = bs ++ b := ⟨_, rfl⟩
    have HH3 := H3
    rw [← hx] at HH3 hxc hxl
    have HXC := Lib.hid hxc
    have HXL := Lib.hid hxl
    have hsz3 := hb03.size
    clear hx hxc hxl he3
    go_wp2_with (first
      | (at_builtin; refine wpList_app El_u8 rfl _ _ rfl hown4 rfl rfl (hb.below hb04) (by simp) (cells_one b) (by unfold maxLen; omega) (by omega) hb34.size ?_; intro v5 w5 hown5x hg5 _; have hb05 : Below W.heap.size W w5 := hb04.trans (own_below hown4' hg5 hb04.size); have hb35 : Below w3.heap.size w3 w5 := hb34.trans (own_below hown4 hg5 hb34.size); rw [← HXC.out, ← HXL.out] at hown5x; obtain ⟨A8, c8, rfl, hc8⟩ := own_form hown5x)
      | (at_builtin; refine wpList_app El_u8 rfl _ _ rfl (lit0_u8 w3) rfl rfl ((rd_own hown3).alloc (Nat.le_refl _) _) (by simp) (cells_one bs) (by unfold maxLen; omega) (by omega) (by simp) ?_; intro v4 w4 hown4 hg4 _; rw [Nat.zero_add, List.nil_append] at hown4; have hb34 : Below w3.heap.size w3 w4 := ((Below.refl _ _).alloc (Nat.le_refl _) _).trans (own_below (lit0_u8 w3) hg4 (by simp)); have hb04 : Below W.heap.size W w4 := hb03.trans (hb34.mono hb03.size); have hown4' := own_lower hown4 hsz3))
    have J3 := HH3.out A8 c8 w5 (rd_own hown5x) hc8
    have HJ3 := Lib.hid J3
    clear J3 hown4 hown4' hown5x
    refine HJ3.out.mono ?_; rintro e w6 ⟨A9, c9, rfl, hown9, hb6⟩
    dsimp only
    have hb36 : Below w3.heap.size w3 w6 := hb35.trans (hb6.mono hb35.size)
    have hb06 : Below W.heap.size W w6 := hb03.trans (hb36.mono hb03.size)
    have hown6x := own_bel hown3 hb36
    clear hown9 hown3
    by_cases hbs0 : bs.length = 0
    · have hI0 : ((bs.length : Int) == 0) = true := by rw [hbs0]; rfl
      clear hbs0
      go_wp2_with fail
      refine (puts_any w6).mono ?_; rintro e w8 ⟨rfl, hb8⟩
      have hb08 : Below W.heap.size W w8 := hb06.trans (hb8.mono hb06.size)
      go_wp2_with fail
      go_ret
      exact ⟨rfl, hb08⟩
    have hI0 : ((bs.length : Int) == 0) = false := beq_eq_false_iff_ne.2 (by omega)
    have hpos : 0 < bs.length := by omega
    obtain ⟨hk, hr1, hr2⟩ := cut_bd z bs.length hpos
    obtain ⟨k, hkk⟩ : ∃ k, k = cutAt z bs.length := ⟨_, rfl⟩
    rw [← hkk] at hk
    have hrd := (rd_own hown6x).take k
    have hrd2 : Rd w6 w6.heap.size A5 (cells (bs.take k)) := by unfold cells at *; rw [List.map_take]; exact hrd
    unfold cutAt at hkk
    clear hbs0 hrd
    obtain ⟨⟨m4, e4⟩, he4, H4b⟩ := H4.out A5 c5 k w6 hk hrd2 (by omega)
    have he4I : ((e4 : Int) != 0) = true := by simp; exact he4
    have HH := Lib.hid H4b
    clear H4b he4
    by_cases hneg : z.tmod (bs.length : Int) < 0
    · have hkI : z.tmod (bs.length : Int) + (bs.length : Int) = (k : Int) := by rw [if_pos hneg] at hkk; omega
      have hsl := fun w' => upto_any (A := A5) (n := bs.length) (c := c5) k (by omega) hle5 w' (z.tmod (bs.length : Int) + (bs.length : Int)) hkI
      clear hkk hkI
      go_wp2_with fail
      refine HH.out.mono ?_; rintro e w7 ⟨A7, c7, rfl, hown7, hb7⟩
      dsimp only
      have hb07 : Below W.heap.size W w7 := hb06.trans (hb7.mono hb06.size)
      go_wp2_with fail
      refine (puts_any w7).mono ?_; rintro e w8 ⟨rfl, hb8⟩
      have hb08 : Below W.heap.size W w8 := hb07.trans (hb8.mono hb07.size)
      go_wp2_with fail
      go_ret
      exact ⟨rfl, hb08⟩
    · have hkI : z.tmod (bs.length : Int) = (k : Int) := by rw [if_neg hneg] at hkk; omega
      have hnn : 0 ≤ z.tmod (bs.length : Int) := by omega
      have hsl := fun w' => upto_any (A := A5) (n := bs.length) (c := c5) k (by omega) hle5 w' (z.tmod (bs.length : Int)) hkI
      clear hkk hkI hneg
      go_wp2_with fail
      refine HH.out.mono ?_; rintro e w7 ⟨A7, c7, rfl, hown7, hb7⟩
      dsimp only
      have hb07 : Below W.heap.size W w7 := hb06.trans (hb7.mono hb06.size)
      go_wp2_with fail
      refine (puts_any w7).mono ?_; rintro e w8 ⟨rfl, hb8⟩
      have hb08 : Below W.heap.size W w8 := hb07.trans (hb8.mono hb07.size)
      go_wp2_with fail
      go_ret
      exact ⟨rfl, hb08⟩
  have hlmI : ((l.length : Int) == (m.length : Int)) = true := by simp; omega
  have HLM := Lib.hid hlm
  clear hlm
  go_enter Try.func6, Try.ntmps6
  go_wp2_with fail
  refine (KL.out W hl (Nat.le_refl _)).mono ?_; rintro e w1 ⟨rfl, rfl⟩
  go_wp2_with fail
  refine (KM.out W hm (Nat.le_refl _)).mono ?_; rintro e w1 ⟨rfl, rfl⟩
  go_wp2_with fail
  refine H1.out.mono ?_; rintro e w1 ⟨A5, c5, rfl, hown5, hb1⟩
  dsimp only at hown5 ⊢
  go_wp2_with fail
  refine (H2.out w1 ((hm.below hb1).more hb1.size)).mono ?_; rintro e w2 ⟨A6, c6, rfl, hown6, hb2⟩
  dsimp only at hown6 ⊢
  have hb02 : Below W.heap.size W w2 := hb1.trans (hb2.mono hb1.size)
  have hown5b := own_bel hown5 hb2
  go_wp2_with fail

  have HS := Lib.hid (fun w' (h : Below w2.heap.size w2 w') => Same_any W.heap.size A A2 c c2 l m w' (hl.below (hb02.trans (h.mono hb02.size))) (hm.below (hb02.trans (h.mono hb02.size))) (Nat.le_trans hb02.size h.size) (by unfold maxLen; omega))
  have CV1 := fun w' (h : Below w2.heap.size w2 w') => conv_own (own_bel hown5b h)
  have CV2 := fun w' (h : Below w2.heap.size w2 w') => conv_own (own_bel hown6 h)
  have hiff := HINJ.out (by first | rfl | trivial) HLM.out
  refine ah_start 20 (fun w' => Below w2.heap.size w2 w') rfl (by kernel_rfl) (Below.refl _ _).drew ?_ ; intro hS
  (refine mv_val 0 (v := ?_) rfl (by kernel_rfl) (by kernel_rfl) (by kernel_rfl) (fun _ _ _ h => h) (by rfl) hS ?_ ?_; rotate_left; (focus (intro w hSw; (try dsimp only at hSw); (have f1 := CV1 w hSw; have f2 := CV2 w hSw; have f3 := hlmI); go_simp; first | done | with_reducible rfl)); simp only [Act.put, List.setIfInBounds_toArray, List.set_cons_zero, List.set_cons_succ])
  (refine mv_val 1 (v := ?_) rfl (by kernel_rfl) (by kernel_rfl) (by kernel_rfl) (fun _ _ _ h => h) (by rfl) hS ?_ ?_; rotate_left; (focus (intro w hSw; (try dsimp only at hSw); (have f1 := CV1 w hSw; have f2 := CV2 w hSw; have f3 := hlmI); go_simp; first | done | with_reducible rfl)); simp only [Act.put, List.setIfInBounds_toArray, List.set_cons_zero, List.set_cons_succ])
  (refine mv_val 2 (v := ?_) rfl (by kernel_rfl) (by kernel_rfl) (by kernel_rfl) (fun _ _ _ h => h) (by rfl) hS ?_ ?_; rotate_left; (focus (intro w hSw; (try dsimp only at hSw); (have f1 := CV1 w hSw; have f2 := CV2 w hSw; have f3 := hlmI); go_simp; first | done | with_reducible rfl)); simp only [Act.put, List.setIfInBounds_toArray, List.set_cons_zero, List.set_cons_succ])
  (refine mv_val 3 (v := ?_) rfl (by kernel_rfl) (by kernel_rfl) (by kernel_rfl) (fun _ _ _ h => h) (by rfl) hS ?_ ?_; rotate_left; (focus (intro w hSw; (try dsimp only at hSw); (have f1 := CV1 w hSw; have f2 := CV2 w hSw; have f3 := hlmI); go_simp; first | done | with_reducible rfl)); simp only [Act.put, List.setIfInBounds_toArray, List.set_cons_zero, List.set_cons_succ])
  (refine mv_val 4 (v := ?_) rfl (by kernel_rfl) (by kernel_rfl) (by kernel_rfl) (fun _ _ _ h => h) (by rfl) hS ?_ ?_; rotate_left; (focus (intro w hSw; (try dsimp only at hSw); (have f1 := CV1 w hSw; have f2 := CV2 w hSw; have f3 := hlmI); go_simp; first | done | with_reducible rfl)); simp only [Act.put, List.setIfInBounds_toArray, List.set_cons_zero, List.set_cons_succ])
  (refine mv_val 5 (v := ?_) rfl (by kernel_rfl) (by kernel_rfl) (by kernel_rfl) (fun _ _ _ h => h) (by rfl) hS ?_ ?_; rotate_left; (focus (intro w hSw; (try dsimp only at hSw); (have f1 := CV1 w hSw; have f2 := CV2 w hSw; have f3 := hlmI); go_simp; first | done | with_reducible rfl)); simp only [Act.put, List.setIfInBounds_toArray, List.set_cons_zero, List.set_cons_succ])
  (refine mv_val 6 (v := ?_) rfl (by kernel_rfl) (by kernel_rfl) (by kernel_rfl) (fun _ _ _ h => h) (by rfl) hS ?_ ?_; rotate_left; (focus (intro w hSw; (try dsimp only at hSw); (have f1 := CV1 w hSw; have f2 := CV2 w hSw; have f3 := hlmI); go_simp; first | done | with_reducible rfl)); simp only [Act.put, List.setIfInBounds_toArray, List.set_cons_zero, List.set_cons_succ])
  (refine mv_val 7 (v := ?_) rfl (by kernel_rfl) (by kernel_rfl) (by kernel_rfl) (fun _ _ _ h => h) (by rfl) hS ?_ ?_; rotate_left; (focus (intro w hSw; (try dsimp only at hSw); (have f1 := CV1 w hSw; have f2 := CV2 w hSw; have f3 := hlmI); go_simp; first | done | with_reducible rfl)); simp only [Act.put, List.setIfInBounds_toArray, List.set_cons_zero, List.set_cons_succ])
  (refine mv_val 8 (v := ?_) rfl (by kernel_rfl) (by kernel_rfl) (by kernel_rfl) (fun _ _ _ h => h) (by rfl) hS ?_ ?_; rotate_left; (focus (intro w hSw; (try dsimp only at hSw); (have f1 := CV1 w hSw; have f2 := CV2 w hSw; have f3 := hlmI); go_simp; first | done | with_reducible rfl)); simp only [Act.put, List.setIfInBounds_toArray, List.set_cons_zero, List.set_cons_succ])
  (refine mv_val 9 (v := ?_) rfl (by kernel_rfl) (by kernel_rfl) (by kernel_rfl) (fun _ _ _ h => h) (by rfl) hS ?_ ?_; rotate_left; (focus (intro w hSw; (try dsimp only at hSw); (have f1 := CV1 w hSw; have f2 := CV2 w hSw; have f3 := hlmI); go_simp; first | done | with_reducible rfl)); simp only [Act.put, List.setIfInBounds_toArray, List.set_cons_zero, List.set_cons_succ])
  (refine mv_val 10 (v := ?_) rfl (by kernel_rfl) (by kernel_rfl) (by kernel_rfl) (fun _ _ _ h => h) (by rfl) hS ?_ ?_; rotate_left; (focus (intro w hSw; (try dsimp only at hSw); (have f1 := CV1 w hSw; have f2 := CV2 w hSw; have f3 := hlmI); go_simp; first | done | with_reducible rfl)); simp only [Act.put, List.setIfInBounds_toArray, List.set_cons_zero, List.set_cons_succ])
  (refine mv_val 11 (v := ?_) rfl (by kernel_rfl) (by kernel_rfl) (by kernel_rfl) (fun _ _ _ h => h) (by rfl) hS ?_ ?_; rotate_left; (focus (intro w hSw; (try dsimp only at hSw); (have f1 := CV1 w hSw; have f2 := CV2 w hSw; have f3 := hlmI); go_simp; first | done | with_reducible rfl)); simp only [Act.put, List.setIfInBounds_toArray, List.set_cons_zero, List.set_cons_succ])
  (refine mv_val 12 (v := ?_) rfl (by kernel_rfl) (by kernel_rfl) (by kernel_rfl) (fun _ _ _ h => h) (by rfl) hS ?_ ?_; rotate_left; (focus (intro w hSw; (try dsimp only at hSw); (have f1 := CV1 w hSw; have f2 := CV2 w hSw; have f3 := hlmI); go_simp; first | done | with_reducible rfl)); simp only [Act.put, List.setIfInBounds_toArray, List.set_cons_zero, List.set_cons_succ])
  (refine mv_val 13 (v := ?_) rfl (by kernel_rfl) (by kernel_rfl) (by kernel_rfl) (fun _ _ _ h => h) (by rfl) hS ?_ ?_; rotate_left; (focus (intro w hSw; (try dsimp only at hSw); (have f1 := CV1 w hSw; have f2 := CV2 w hSw; have f3 := hlmI); go_simp; first | done | with_reducible rfl)); simp only [Act.put, List.setIfInBounds_toArray, List.set_cons_zero, List.set_cons_succ])
  (refine mv_val 14 (v := ?_) rfl (by kernel_rfl) (by kernel_rfl) (by kernel_rfl) (fun _ _ _ h => h) (by rfl) hS ?_ ?_; rotate_left; (focus (intro w hSw; (try dsimp only at hSw); (have f1 := CV1 w hSw; have f2 := CV2 w hSw; have f3 := hlmI); go_simp; first | done | with_reducible rfl)); simp only [Act.put, List.setIfInBounds_toArray, List.set_cons_zero, List.set_cons_succ])
  (refine mv_val 15 (v := ?_) rfl (by kernel_rfl) (by kernel_rfl) (by kernel_rfl) (fun _ _ _ h => h) (by rfl) hS ?_ ?_; rotate_left; (focus (intro w hSw; (try dsimp only at hSw); (have f1 := CV1 w hSw; have f2 := CV2 w hSw; have f3 := hlmI); go_simp; first | done | with_reducible rfl)); simp only [Act.put, List.setIfInBounds_toArray, List.set_cons_zero, List.set_cons_succ])
  (refine mv_val 16 (v := ?_) rfl (by kernel_rfl) (by kernel_rfl) (by kernel_rfl) (fun _ _ _ h => h) (by rfl) hS ?_ ?_; rotate_left; (focus (intro w hSw; (try dsimp only at hSw); (have f1 := CV1 w hSw; have f2 := CV2 w hSw; have f3 := hlmI); go_simp; first | done | with_reducible rfl)); simp only [Act.put, List.setIfInBounds_toArray, List.set_cons_zero, List.set_cons_succ])
  (refine mv_call 17 (f := ?_) (args := ?_) rfl (by kernel_rfl) (by rfl) ?_ ?_; rotate_left 2; (focus (go_simp; first | done | with_reducible rfl | (refine ⟨?_, ?_⟩ <;> with_reducible rfl))))
  refine (HS.out _ hS).mono ?_; rintro e w3 ⟨rfl, hb3⟩
  have hS3 : Below w2.heap.size w2 w3 := hS.trans (hb3.mono hS.size)
  refine ⟨_, rfl, hS3, ?_⟩
  replace hS := hS3
  clear hS3
  simp only [Act.put, List.setIfInBounds_toArray, List.set_cons_zero, List.set_cons_succ]
  (refine mv_val 18 (v := ?_) rfl (by kernel_rfl) (by kernel_rfl) (by kernel_rfl) (fun _ _ _ h => h) (by rfl) hS ?_ ?_; rotate_left; (focus (intro w hSw; (try dsimp only at hSw); (have f1 := CV1 w hSw; have f2 := CV2 w hSw; have f3 := hlmI); go_simp; first | done | with_reducible rfl)); simp only [Act.put, List.setIfInBounds_toArray, List.set_cons_zero, List.set_cons_succ])
  (refine mv_val 19 (v := ?_) rfl (by kernel_rfl) (by kernel_rfl) (by kernel_rfl) (fun _ _ _ h => h) (by rfl) hS ?_ ?_; rotate_left; (focus (intro w hSw; (try dsimp only at hSw); (have f1 := CV1 w hSw; have f2 := CV2 w hSw; have f3 := hlmI); go_simp; first | done | with_reducible rfl)); simp only [Act.put, List.setIfInBounds_toArray, List.set_cons_zero, List.set_cons_succ])
  refine wpAnyH_done (by kernel_rfl) ?_ _
  have hq : (!((bs == bm) == decide (l = m))) = false := by
    have hbb : (bs == bm) = decide (l = m) := by
      by_cases h : bs = bm
      · rw [decide_eq_true (hiff.1 h), h]; simp
      · rw [decide_eq_false (fun e => h (hiff.2 e))]; simp [h]
    rw [hbb]
    simp
  rw [hq]
  clear hq CV1 CV2 hown6 hiff
  have hb03 : Below W.heap.size W w3 := hb02.trans (hS.mono hb02.size)
  have hown3 := own_bel hown5b hS
  have hle5 := own_le hown3
  by_cases hbe : b = []
  case pos =>
    subst hbe
    by_cases hbs0 : bs.length = 0
    · have hI0 : ((bs.length : Int) == 0) = true := by rw [hbs0]; rfl
      clear hbs0
      go_wp2_with fail
      refine (puts_any w3).mono ?_; rintro e w8 ⟨rfl, hb8⟩
      have hb08 : Below W.heap.size W w8 := hb03.trans (hb8.mono hb03.size)
      go_wp2_with fail
      go_ret
      exact ⟨rfl, hb08⟩
    have hI0 : ((bs.length : Int) == 0) = false := beq_eq_false_iff_ne.2 (by omega)
    have hpos : 0 < bs.length := by omega
    obtain ⟨hk, hr1, hr2⟩ := cut_bd z bs.length hpos
    obtain ⟨k, hkk⟩ : ∃ k, k = cutAt z bs.length := ⟨_, rfl⟩
    rw [← hkk] at hk
    have hrd := (rd_own hown3).take k
    have hrd2 : Rd w3 w3.heap.size A5 (cells (bs.take k)) := by unfold cells at *; rw [List.map_take]; exact hrd
    unfold cutAt at hkk
    clear hbs0 hrd
    obtain ⟨⟨m4, e4⟩, he4, H4b⟩ := H4.out A5 c5 k w3 hk hrd2 (by omega)
    have he4I : ((e4 : Int) != 0) = true := by simp; exact he4
    have HH := Lib.hid H4b
    clear H4b he4
    by_cases hneg : z.tmod (bs.length : Int) < 0
    · have hkI : z.tmod (bs.length : Int) + (bs.length : Int) = (k : Int) := by rw [if_pos hneg] at hkk; omega
      have hsl := fun w' => upto_any (A := A5) (n := bs.length) (c := c5) k (by omega) hle5 w' (z.tmod (bs.length : Int) + (bs.length : Int)) hkI
      clear hkk hkI
      go_wp2_with fail
      refine HH.out.mono ?_; rintro e w7 ⟨A7, c7, rfl, hown7, hb7⟩
      dsimp only
      have hb07 : Below W.heap.size W w7 := hb03.trans (hb7.mono hb03.size)
      go_wp2_with fail
      refine (puts_any w7).mono ?_; rintro e w8 ⟨rfl, hb8⟩
      have hb08 : Below W.heap.size W w8 := hb07.trans (hb8.mono hb07.size)
      go_wp2_with fail
      go_ret
      exact ⟨rfl, hb08⟩
    · have hkI : z.tmod (bs.length : Int) = (k : Int) := by rw [if_neg hneg] at hkk; omega
      have hnn : 0 ≤ z.tmod (bs.length : Int) := by omega
      have hsl := fun w' => upto_any (A := A5) (n := bs.length) (c := c5) k (by omega) hle5 w' (z.tmod (bs.length : Int)) hkI
      clear hkk hkI hneg
      go_wp2_with fail
      refine HH.out.mono ?_; rintro e w7 ⟨A7, c7, rfl, hown7, hb7⟩
      dsimp only
      have hb07 : Below W.heap.size W w7 := hb03.trans (hb7.mono hb03.size)
      go_wp2_with fail
      refine (puts_any w7).mono ?_; rintro e w8 ⟨rfl, hb8⟩
      have hb08 : Below W.heap.size W w8 := hb07.trans (hb8.mono hb07.size)
      go_wp2_with fail
      go_ret
      exact ⟨rfl, hb08⟩
  have hbp : (0 : Int) < (b.length : Int) := by
    have : 0 < b.length := List.length_pos_iff.2 hbe
    omega
  have hxc : cells (bs ++ b) = cells bs ++ cells b := by rw [cells_append]
  have hxl : (bs ++ b).length = bs.length + b.length := by rw [List.length_append]
  have he3 := HG3.out hbe
  have he3I : ((e3 : Int) == 0) = false := by simp; exact he3
  obtain ⟨x, hx⟩ : ∃ x, x = bs ++ b := ⟨_, rfl⟩
  have HH3 := H3
  rw [← hx] at HH3 hxc hxl
  have HXC := Lib.hid hxc
  have HXL := Lib.hid hxl
  have hsz3 := hb03.size
  clear hx hxc hxl he3
  go_wp2_with (first
    | (at_builtin; refine wpList_app El_u8 rfl _ _ rfl hown4 rfl rfl (hb.below hb04) (by simp) (cells_one b) (by unfold maxLen; omega) (by omega) hb34.size ?_; intro v5 w5 hown5x hg5 _; have hb05 : Below W.heap.size W w5 := hb04.trans (own_below hown4' hg5 hb04.size); have hb35 : Below w3.heap.size w3 w5 := hb34.trans (own_below hown4 hg5 hb34.size); rw [← HXC.out, ← HXL.out] at hown5x; obtain ⟨A8, c8, rfl, hc8⟩ := own_form hown5x)
    | (at_builtin; refine wpList_app El_u8 rfl _ _ rfl (lit0_u8 w3) rfl rfl ((rd_own hown3).alloc (Nat.le_refl _) _) (by simp) (cells_one bs) (by unfold maxLen; omega) (by omega) (by simp) ?_; intro v4 w4 hown4 hg4 _; rw [Nat.zero_add, List.nil_append] at hown4; have hb34 : Below w3.heap.size w3 w4 := ((Below.refl _ _).alloc (Nat.le_refl _) _).trans (own_below (lit0_u8 w3) hg4 (by simp)); have hb04 : Below W.heap.size W w4 := hb03.trans (hb34.mono hb03.size); have hown4' := own_lower hown4 hsz3))
  have J3 := HH3.out A8 c8 w5 (rd_own hown5x) hc8
  have HJ3 := Lib.hid J3
  clear J3 hown4 hown4' hown5x
  refine HJ3.out.mono ?_; rintro e w6 ⟨A9, c9, rfl, hown9, hb6⟩
  dsimp only
  have hb36 : Below w3.heap.size w3 w6 := hb35.trans (hb6.mono hb35.size)
  have hb06 : Below W.heap.size W w6 := hb03.trans (hb36.mono hb03.size)
  have hown6x := own_bel hown3 hb36
  clear hown9 hown3
  by_cases hbs0 : bs.length = 0
  · have hI0 : ((bs.length : Int) == 0) = true := by rw [hbs0]; rfl
    clear hbs0
    go_wp2_with fail
    refine (puts_any w6).mono ?_; rintro e w8 ⟨rfl, hb8⟩
    have hb08 : Below W.heap.size W w8 := hb06.trans (hb8.mono hb06.size)
    go_wp2_with fail
    go_ret
    exact ⟨rfl, hb08⟩
  have hI0 : ((bs.length : Int) == 0) = false := beq_eq_false_iff_ne.2 (by omega)
  have hpos : 0 < bs.length := by omega
  obtain ⟨hk, hr1, hr2⟩ := cut_bd z bs.length hpos
  obtain ⟨k, hkk⟩ : ∃ k, k = cutAt z bs.length := ⟨_, rfl⟩
  rw [← hkk] at hk
  have hrd := (rd_own hown6x).take k
  have hrd2 : Rd w6 w6.heap.size A5 (cells (bs.take k)) := by unfold cells at *; rw [List.map_take]; exact hrd
  unfold cutAt at hkk
  clear hbs0 hrd
  obtain ⟨⟨m4, e4⟩, he4, H4b⟩ := H4.out A5 c5 k w6 hk hrd2 (by omega)
  have he4I : ((e4 : Int) != 0) = true := by simp; exact he4
  have HH := Lib.hid H4b
  clear H4b he4
  by_cases hneg : z.tmod (bs.length : Int) < 0
  · have hkI : z.tmod (bs.length : Int) + (bs.length : Int) = (k : Int) := by rw [if_pos hneg] at hkk; omega
    have hsl := fun w' => upto_any (A := A5) (n := bs.length) (c := c5) k (by omega) hle5 w' (z.tmod (bs.length : Int) + (bs.length : Int)) hkI
    clear hkk hkI
    go_wp2_with fail
    refine HH.out.mono ?_; rintro e w7 ⟨A7, c7, rfl, hown7, hb7⟩
    dsimp only
    have hb07 : Below W.heap.size W w7 := hb06.trans (hb7.mono hb06.size)
    go_wp2_with fail
    refine (puts_any w7).mono ?_; rintro e w8 ⟨rfl, hb8⟩
    have hb08 : Below W.heap.size W w8 := hb07.trans (hb8.mono hb07.size)
    go_wp2_with fail
    go_ret
    exact ⟨rfl, hb08⟩
  · have hkI : z.tmod (bs.length : Int) = (k : Int) := by rw [if_neg hneg] at hkk; omega
    have hnn : 0 ≤ z.tmod (bs.length : Int) := by omega
    have hsl := fun w' => upto_any (A := A5) (n := bs.length) (c := c5) k (by omega) hle5 w' (z.tmod (bs.length : Int)) hkI
    clear hkk hkI hneg
    go_wp2_with fail
    refine HH.out.mono ?_; rintro e w7 ⟨A7, c7, rfl, hown7, hb7⟩
    dsimp only
    have hb07 : Below W.heap.size W w7 := hb06.trans (hb7.mono hb06.size)
    go_wp2_with fail
    refine (puts_any w7).mono ?_; rintro e w8 ⟨rfl, hb8⟩
    have hb08 : Below W.heap.size W w8 := hb07.trans (hb8.mono hb07.size)
    go_wp2_with fail
    go_ret
    exact ⟨rfl, hb08⟩
end Go.Proofs.Ytiijnfakphhbeaa

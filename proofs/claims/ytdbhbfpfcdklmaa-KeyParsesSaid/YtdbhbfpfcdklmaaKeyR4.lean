/- The reference's Parse (layer 3), walked: it answers kparse. For bytes of at most 2^32. -/
import Derived.Test.YtdbhbfpfcdklmaaKeyR3
import Derived.Test.YtdbhbfpfcdklmaaKeyQ
namespace Go.Proofs.Ytdbhbfpfcdklmaa
open Go.RowKit
set_option linter.unusedVariables false
set_option linter.unusedSimpArgs false

set_option maxHeartbeats 4000000 in
set_option maxRecDepth 100000 in
theorem RParse_any (B : Nat) (A : Option Addr) (c : Nat) (b : List UInt8) (w : World) (hr : Rd w B A (cells b)) (hc : b.length ≤ c) (hB : B ≤ w.heap.size) (hlen : b.length ≤ 4294967296) :
    Calls Try.prog 17 #[.slice A b.length c] w (RetVE w (kparse b)) := by
  obtain ⟨by_, HEL, hby⟩ := El_val
  have hcell : ∀ w', Below w.heap.size w w' → ∀ i d, b[i]? = some d → ∃ bb oo, A = some ⟨bb, oo, none⟩ ∧ w'.cell? ⟨bb, oo + i, none⟩ = some (.int .u8 (d.toNat : Int)) := fun w' h i d hd => by
    obtain ⟨bb, oo, hA, hbb, hcc⟩ := (hr.below (h.mono hB)).at (k := i) (by simpa using (List.getElem?_eq_some_iff.1 hd).1)
    exact ⟨bb, oo, hA, hcc i _ (by rw [List.getElem?_map, hd]; rfl)⟩
  have HC := Lib.hid hcell
  clear hcell
  go_enter Try.func17, Try.ntmps17
  go_wp2
  go_loopw [4, 5] (fun v4 v5 wr => ∃ (i : Nat) (acc : List V), i ≤ b.length ∧ v5 = .int .i64 i ∧ acc.length ≤ i ∧ wr.ownsRow w.heap.size 39 3 v4 acc.length (vcells acc) ∧ kparse b = kp acc (b.drop i) ∧ Below w.heap.size w wr) (fun _ v5 _ => b.length - (intOf v5).toNat)
  case atStart => exact ⟨0, [], by omega, rfl, by simp, World.ownsRow_nil _ _ _ _, rfl, Below.refl _ _⟩
  case round =>
    obtain ⟨i, acc, hi, rfl, hsi, hown, hkp, hbel⟩ := hrel
    obtain ⟨A5, c5, rfl, hc5⟩ := own_form hown
    have HKP := Lib.hid hkp
    have hsz := hbel.size
    clear hkp
    by_cases hlt : i < b.length
    case neg =>
      have hib : i = b.length := by omega
      have hx : kparse b = (acc, 0) := by rw [HKP.out, hib, List.drop_length, kp_nil]
      have HX := Lib.hid hx
      subst hib
      clear hx
      go_wp2_with fail
      go_ret2
      exact retVE_ok HX.out hown hbel
    obtain ⟨d, hd, hdr⟩ := drop_head hlt
    obtain ⟨bb, oo, rfl, hcl⟩ := HC.out wr hbel i d hd
    have hltI : (i : Int) < (b.length : Int) := by omega
    have hi0 : (0 : Int) ≤ (i : Int) + 1 := by omega
    have hby2 : (acc.length + 1) * by_ ≤ 4294967297 * 64 := Nat.mul_le_mul (by omega) hby
    have HK2 : Hid (kparse b = if (rone d (b.drop (i + 1))).2.2 = 0 then kp (acc ++ [(rone d (b.drop (i + 1))).1]) (rone d (b.drop (i + 1))).2.1 else ([], (rone d (b.drop (i + 1))).2.2)) := Lib.hid (by rw [HKP.out, hdr, kp_cons])
    have hdl : (b.drop (i + 1)).length = b.length - (i + 1) := List.length_drop
    clear hdr HKP
    by_cases h1 : d = 1
    · subst h1
      have HK3 : Hid (kparse b = kp (acc ++ [null]) (b.drop (i + 1))) := Lib.hid (by rw [HK2.out]; rfl)
      rw [show ((1 : UInt8).toNat : Int) = 1 from rfl] at hcl
      clear HK2 hd
      go_wp2_with (at_builtin; refine wpList_app HEL rfl _ _ rfl (hown.alloc _) rfl rfl (cv_three null rfl) rfl (cv_one _) (by unfold maxLen; omega) (by omega) (by simp; omega) ?_; intro v2 w3 hown3 hg3 ho3)
      have hb3 : Below w.heap.size w w3 := (hbel.alloc hbel.size _).trans (own_below (hown.alloc _) hg3 (by simp; omega))
      go_roundw
      case rel => exact ⟨i + 1, acc ++ [null], by omega, by go_num, by simp; omega, by rw [vcells_snoc, List.length_append, List.length_singleton]; exact hown3, HK3.out, hb3⟩
      case measure => simp [intOf]; omega
    have h1I : ((d.toNat : Int) == 1) = false := by
      simp only [beq_eq_false_iff_ne, ne_eq]; intro h; exact h1 (UInt8.toNat_inj.1 (by show d.toNat = 1; omega))
    by_cases h2 : d = 2
    · subst h2
      rw [show ((2 : UInt8).toNat : Int) = 2 from rfl] at hcl
      clear h1 hd
      by_cases hl1 : i + 1 < b.length
      case neg =>
        have hx : kparse b = ([], 20) := by
          rw [HK2.out, List.drop_of_length_le (by omega : b.length ≤ i + 1)]; rfl
        have HX := Lib.hid hx
        have hbI : ((i : Int) + 1 == (b.length : Int)) = true := by simp; omega
        clear hx HK2
        go_wp2_with fail
        go_ret2
        exact retVE_err HX.out hbel
      obtain ⟨e, he, her⟩ := drop_head hl1
      obtain ⟨b2, o2, hA2, hc2⟩ := HC.out wr hbel (i + 1) e he
      cases hA2
      have hbI : ((i : Int) + 1 == (b.length : Int)) = false := by simp; omega
      have hl1I : (i : Int) + 1 < (b.length : Int) := by omega
      by_cases he1 : 1 < e.toNat
      · have hx : kparse b = ([], 21) := by rw [HK2.out, her]; unfold rone; simp [he1]
        have HX := Lib.hid hx
        have heI : (1 : Int) < (e.toNat : Int) := by omega
        clear hx HK2 her
        go_wp2_with fail
        go_ret2
        exact retVE_err HX.out hbel
      · have HK3 : Hid (kparse b = kp (acc ++ [⟨1, e.toNat, []⟩]) (b.drop (i + 1 + 1))) := Lib.hid (by rw [HK2.out, her]; unfold rone; simp [he1])
        have heI : (e.toNat : Int) ≤ 1 := by omega
        have hw : IntKind.i64.wrap (e.toNat : Int) = (e.toNat : Int) := by rw [IntKind.wrap_i64]; omega
        clear HK2 her
        go_wp2_with (at_builtin; refine wpList_app HEL rfl _ _ rfl (hown.alloc _) rfl rfl (cv_three (⟨1, e.toNat, []⟩ : V) rfl) rfl (cv_one _) (by unfold maxLen; omega) (by omega) (by simp; omega) ?_; intro v2 w3 hown3 hg3 ho3)
        have hb3 : Below w.heap.size w w3 := (hbel.alloc hbel.size _).trans (own_below (hown.alloc _) hg3 (by simp; omega))
        go_roundw
        case rel => exact ⟨i + 1 + 1, acc ++ [⟨1, e.toNat, []⟩], by omega, by go_num, by simp; omega, by rw [vcells_snoc, List.length_append, List.length_singleton]; exact hown3, HK3.out, hb3⟩
        case measure => simp [intOf]; omega
    have h2I : ((d.toNat : Int) == 2) = false := by
      simp only [beq_eq_false_iff_ne, ne_eq]; intro h; exact h2 (UInt8.toNat_inj.1 (by show d.toNat = 2; omega))
    by_cases h3 : d = 3
    · subst h3
      rw [show ((3 : UInt8).toNat : Int) = 3 from rfl] at hcl
      clear h1 h2 hd
      by_cases hl8 : b.length - (i + 1) < 8
      · have hx : kparse b = ([], 20) := by rw [HK2.out]; unfold rone; simp [hdl, hl8]
        have HX := Lib.hid hx
        have hlI : (b.length : Int) - ((i : Int) + 1) < 8 := by omega
        clear hx HK2 hdl
        go_wp2_with fail
        go_ret2
        exact retVE_err HX.out hbel
      have HK3 : Hid (kparse b = kp (acc ++ [⟨2, (num8 0 ((b.drop (i + 1)).take 8) : Int) - 9223372036854775808, []⟩]) (b.drop (i + 1 + 8))) := Lib.hid (by
        rw [HK2.out]; unfold rone; simp [hdl, hl8, List.drop_drop])
      have hlI : ¬ ((b.length : Int) - ((i : Int) + 1) < 8) := by omega
      have hl8b : i + 1 + 8 ≤ b.length := by omega
      clear HK2 hdl
      go_wp2_with fail
      go_loopw [7, 8] (fun v7 v8 ws => ∃ k : Nat, k ≤ 8 ∧ v8 = .int .i64 k ∧ v7 = .int .u64 (num8 0 ((b.drop (i + 1)).take k) : Nat) ∧ ws = wr) (fun _ v8 _ => 8 - (intOf v8).toNat)
      case atStart => exact ⟨0, by omega, rfl, rfl, rfl⟩
      case round =>
        obtain ⟨k, hk, rfl, rfl, rfl⟩ := hrel
        have hlt8 := num8_lt0 ((b.drop (i + 1)).take k)
        rw [List.length_take] at hlt8
        rcases Nat.lt_or_ge k 8 with hk8 | hk8
        · obtain ⟨x, hx, _⟩ := drop_head (l := b) (i := i + 1 + k) (by omega)
          obtain ⟨b2, o2, hA2, hc2⟩ := HC.out _ hbel (i + 1 + k) x hx
          cases hA2
          have hs : num8 0 ((b.drop (i + 1)).take (k + 1)) = num8 0 ((b.drop (i + 1)).take k) * 256 + x.toNat := by rw [List.take_add_one, List.getElem?_drop, hx]; exact num8_snoc _ _ _
          have hu : num8 0 ((b.drop (i + 1)).take k) < 72057594037927936 := Nat.lt_of_lt_of_le hlt8 (Nat.le_trans (Nat.pow_le_pow_right (by omega) (by omega : min k (b.drop (i + 1)).length ≤ 7)) (by decide))
          obtain ⟨u, huu⟩ : ∃ u, u = num8 0 ((b.drop (i + 1)).take k) := ⟨_, rfl⟩
          rw [← huu] at hu hs ⊢
          have HS := Lib.hid hs
          have hxb : x.toNat < 256 := x.toNat_lt
          have hki : (i : Int) + 1 + (k : Int) < (b.length : Int) := by omega
          clear hs huu hlt8 hx
          go_wp2_with fail
          go_roundw
          case rel => exact ⟨k + 1, by omega, by go_num, by rw [HS.out]; simp, trivial⟩
          case measure => simp [intOf]; omega
        · have hk8' : k = 8 := by omega
          subst hk8'
          have hu : num8 0 ((b.drop (i + 1)).take 8) < 18446744073709551616 := Nat.lt_of_lt_of_le hlt8 (Nat.le_trans (Nat.pow_le_pow_right (by omega) (by omega : min 8 (b.drop (i + 1)).length ≤ 8)) (by decide))
          obtain ⟨u, huu⟩ : ∃ u, u = num8 0 ((b.drop (i + 1)).take 8) := ⟨_, rfl⟩
          rw [← huu] at hu HK3 ⊢
          have hw : IntKind.i64.wrap (IntKind.u64.wrap ((u : Int) - 9223372036854775808)) = (u : Int) - 9223372036854775808 := by rw [IntKind.wrap_u64, IntKind.wrap_i64]; omega
          clear huu hlt8 hk
          go_wp2_with (at_builtin; refine wpList_app HEL rfl _ _ rfl (hown.alloc _) rfl rfl (cv_three (⟨2, (u : Int) - 9223372036854775808, []⟩ : V) rfl) rfl (cv_one _) (by unfold maxLen; omega) (by omega) (by simp; omega) ?_; intro v2 w3 hown3 hg3 ho3)
          have hb3 : Below w.heap.size w w3 := (hbel.alloc hbel.size _).trans (own_below (hown.alloc _) hg3 (by simp; omega))
          go_roundw
          case rel => exact ⟨i + 1 + 8, acc ++ [⟨2, (u : Int) - 9223372036854775808, []⟩], by omega, by go_num, by simp; omega, by rw [vcells_snoc, List.length_append, List.length_singleton]; exact hown3, HK3.out, hb3⟩
          case measure => simp [intOf]; omega
    have h3I : ((d.toNat : Int) == 3) = false := by
      simp only [beq_eq_false_iff_ne, ne_eq]; intro h; exact h3 (UInt8.toNat_inj.1 (by show d.toNat = 3; omega))
    by_cases h4 : d = 4
    · subst h4
      rw [show ((4 : UInt8).toNat : Int) = 4 from rfl] at hcl
      clear h1 h2 h3 hd
      obtain ⟨A', c', hsl, hrd', hc'⟩ := from_any c (i + 1) (by omega) hc (hr.below (hbel.mono hB))
      have T1 := RText_any B A' c' (b.drop (i + 1)) wr hrd' (by omega) (by omega)
      have hsl2 := fun w' => hsl w' ((i : Int) + 1) (by omega)
      obtain ⟨t, ht⟩ : ∃ t, t = rtext [] (b.drop (i + 1)) := ⟨_, rfl⟩
      have hro : rone 4 (b.drop (i + 1)) = if t.2.2 = 0 then (⟨3, 0, t.1⟩, t.2.1, 0) else (null, [], t.2.2) := by rw [ht]; rfl
      rw [← ht] at T1
      obtain ⟨tt, tr, er⟩ := t
      obtain ⟨m, hm⟩ : ∃ m, m = (b.drop (i + 1)).length := ⟨_, rfl⟩
      rw [← hm] at T1 hsl2
      have HT1 := Lib.hid T1
      have HM := Lib.hid hm
      clear T1 hsl ht hrd' hc' hm
      by_cases her : er = 0
      · subst her
        have HK3 : Hid (kparse b = kp (acc ++ [⟨3, 0, tt⟩]) tr) := Lib.hid (by rw [HK2.out, hro]; rfl)
        clear HK2 hro
        go_wp2_with fail
        refine (HT1.out).mono ?_; rintro e w2 ⟨⟨n, rfl, hn⟩, hb2⟩
        obtain ⟨hn1, hn2⟩ := hn rfl
        have hown2 := own_bel hown hb2
        have hbel2 : Below w.heap.size w w2 := hbel.trans (hb2.mono hbel.size)
        have hsz2 := hb2.size
        have HN : Hid ((b.drop (i + 1)).drop n = tr) := Lib.hid hn2
        have hnb : i + 1 + n ≤ b.length := by omega
        clear hn hn2
        dsimp only
        go_wp2_with (at_builtin; refine wpList_app HEL rfl _ _ rfl (hown2.alloc _) rfl rfl (cv_three (⟨3, 0, tt⟩ : V) rfl) rfl (cv_one _) (by unfold maxLen; omega) (by omega) (by simp; omega) ?_; intro v2 w3 hown3 hg3 ho3)
        have hb3 : Below w.heap.size w w3 := (hbel2.alloc hbel2.size _).trans (own_below (hown2.alloc _) hg3 (by simp; omega))
        go_roundw
        case rel => exact ⟨i + 1 + n, acc ++ [⟨3, 0, tt⟩], by omega, by go_num, by simp; omega, by rw [vcells_snoc, List.length_append, List.length_singleton]; exact hown3, by rw [HK3.out, ← HN.out, List.drop_drop], hb3⟩
        case measure => simp [intOf]; omega
      · have hx : kparse b = ([], er) := by rw [HK2.out, hro]; simp [her]
        have HX := Lib.hid hx
        have herI : ((er : Int) != 0) = true := by simpa using her
        clear hx her HK2 hro
        go_wp2_with fail
        refine (HT1.out).mono ?_; rintro e w2 ⟨⟨n, rfl, _⟩, hb2⟩
        dsimp only
        go_wp2_with fail
        go_ret2
        exact retVE_err HX.out (hbel.trans (hb2.mono hbel.size))
    have h4I : ((d.toNat : Int) == 4) = false := by
      simp only [beq_eq_false_iff_ne, ne_eq]; intro h; exact h4 (UInt8.toNat_inj.1 (by show d.toNat = 4; omega))
    have hx : kparse b = ([], 21) := by rw [HK2.out, rone_bad d _ h1 h2 h3 h4]; rfl
    have HX := Lib.hid hx
    clear hx h1 h2 h3 h4 HK2 hd
    go_wp2_with fail
    go_ret2
    exact retVE_err HX.out hbel
end Go.Proofs.Ytdbhbfpfcdklmaa

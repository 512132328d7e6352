/- The walk of the reference's Get (layer 6). No condition but sizes. -/
import Derived.Test.YtiijnfakphhbeaaCR7
namespace Go.Proofs.Ytiijnfakphhbeaa
open Go.RowKit Go.Maps
set_option linter.unusedVariables false
set_option linter.unusedSimpArgs false

set_option maxHeartbeats 8000000 in
set_option maxRecDepth 100000 in
theorem rcget_any (B : Nat) (A : Option Addr) (c : Nat) (t : UInt8) (b : List UInt8) (n : Int) (w : World) (hr : Rd w B A (cells b)) (hc : b.length ≤ c) (hB : B ≤ w.heap.size) (hn63 : i64r n) (hb : b.length ≤ 4000000000) :
    Calls Try.prog 17 #[b8 t, .slice A b.length c, .int .i64 n] w (RetVE w (cget t b n)) := by
  have ht256 := t.toNat_lt
  by_cases hno : tyok t = false ∨ n < 0 ∨ 65536 < n
  · have hE : cget t b n = ([], 1) := by unfold cget; rw [if_pos hno]
    have HE := Lib.hid hE
    clear hE
    have fin : ∀ (a1 a2 : Bool), decide ((t.toNat : Int) < 1) = a1 → decide ((3 : Int) < (t.toNat : Int)) = a2 → Calls Try.prog 17 #[b8 t, .slice A b.length c, .int .i64 n] w (RetVE w (cget t b n)) := by
      intro a1 a2 h1 h2
      by_cases hn0 : n < 0
      · have h3 : decide (n < 0) = true := decide_eq_true hn0
        clear hno
        cases a1 <;> cases a2 <;> (
          go_enter Try.func17, Try.ntmps17
          go_wp2_with fail
          go_ret2
          exact retVE_err HE.out (Below.refl _ _))
      · have h3 : decide (n < 0) = false := decide_eq_false hn0
        by_cases hn6 : 65536 < n
        · have h4 : decide (65536 < n) = true := decide_eq_true hn6
          clear hno
          cases a1 <;> cases a2 <;> (
            go_enter Try.func17, Try.ntmps17
            go_wp2_with fail
            go_ret2
            exact retVE_err HE.out (Below.refl _ _))
        · have h4 : decide (65536 < n) = false := decide_eq_false hn6
          have ht : a1 = true ∨ a2 = true := by
            rcases hno with h | h | h
            · unfold tyok at h
              simp only [Bool.or_eq_false_iff, decide_eq_false_iff_not] at h
              rw [← h1, ← h2]
              simp only [decide_eq_true_eq]
              omega
            · exact absurd h hn0
            · exact absurd h hn6
          clear hno
          cases a1 <;> cases a2 <;> first
            | (rcases ht with h | h <;> cases h; done)
            | (clear ht
               go_enter Try.func17, Try.ntmps17
               go_wp2_with fail
               go_ret2
               exact retVE_err HE.out (Below.refl _ _))
    exact fin _ _ rfl rfl
  have hty : tyok t = true := by
    cases h : tyok t
    · exact absurd (.inl h) hno
    · rfl
  obtain ⟨k, rfl⟩ : ∃ k : Nat, n = k := ⟨n.toNat, by omega⟩
  have hk : k ≤ 65536 := by omega
  have hcg : cget t b k = if tkE b k ≠ 0 then ([], tkE b k) else if (cread t (b.drop (size8 k)) (zeros b k)).2 ≠ 0 then ([], (cread t (b.drop (size8 k)) (zeros b k)).2) else (merge b 0 k (cread t (b.drop (size8 k)) (zeros b k)).1, 0) := by
    unfold cget
    rw [if_neg hno]
    simp only [Int.toNat_natCast]
  have HCG := Lib.hid hcg
  have hI1 : decide ((t.toNat : Int) < 1) = false := by unfold tyok at hty; simp at hty; exact decide_eq_false (by omega)
  have hI3 : decide ((3 : Int) < (t.toNat : Int)) = false := by unfold tyok at hty; simp at hty; exact decide_eq_false (by omega)
  have hI0 : decide ((k : Int) < 0) = false := decide_eq_false (by omega)
  have hI6 : decide ((65536 : Int) < (k : Int)) = false := decide_eq_false (by omega)
  have HT := Lib.hid (rbits_any B A c b k w hr hB hk (by omega))
  have HTY := Lib.hid hty
  have htk : tkE b k = 0 → size8 k ≤ b.length := fun h => by
    unfold tkE at h
    split at h
    · simp at h
    · omega
  have HTK := Lib.hid htk
  obtain ⟨by_, HEL, hby⟩ := El_val
  clear hcg hno hty htk
  go_enter Try.func17, Try.ntmps17
  go_wp2_with fail
  refine HT.out.mono ?_
  rintro e w4 (⟨hne, rfl, hb4⟩ | ⟨heq, A4, c4, rfl, hown4, hb4⟩)
  · have hE : cget t b k = ([], tkE b k) := by rw [HCG.out, if_pos hne]
    have HE := Lib.hid hE
    obtain ⟨x, hx⟩ : ∃ x, x = tkE b k := ⟨_, rfl⟩
    rw [← hx] at hne HE ⊢
    have hneI : ((x : Int) != 0) = true := by simp; omega
    clear hE hne hx
    go_wp2_with fail
    go_ret2
    exact retVE_err HE.out hb4
  have hsl := HTK.out heq
  have hcg2 : cget t b k = if (cread t (b.drop (size8 k)) (zeros b k)).2 ≠ 0 then ([], (cread t (b.drop (size8 k)) (zeros b k)).2) else (merge b 0 k (cread t (b.drop (size8 k)) (zeros b k)).1, 0) := by rw [HCG.out, if_neg (by simpa using heq)]
  have hz04 := hb4.size
  have hrb := rd_own hown4
  obtain ⟨A5, c5, hs5, hrd5, hc5⟩ := from_any c (size8 k) hsl hc (hr.below (hb4.mono hB))
  have hcrl := @cread_len t (b.drop (size8 k)) (zeros b k)
  have hzl := zeros_le b k
  have M0 := rmarks_any B t HTY.out A5 c5 (b.drop (size8 k)) (zeros b k) w4 hrd5 hc5 (by omega) (by omega) (by rw [List.length_drop]; omega)
  obtain ⟨s8, hs8⟩ : ∃ s, s = size8 k := ⟨_, rfl⟩
  rw [← hs8] at hs5 M0 hcg2 hcrl hsl ⊢
  rw [List.length_drop] at hs5 M0
  have hsl5 := fun w' => hs5 w' (s8 : Int) rfl
  obtain ⟨z, hz⟩ : ∃ z, z = zeros b k := ⟨_, rfl⟩
  rw [← hz] at M0 hcg2 hcrl hzl
  generalize cread t (b.drop s8) z = x at *
  obtain ⟨lm, er⟩ := x
  dsimp only at hcg2 hcrl
  have HM := Lib.hid M0
  have HCG2 := Lib.hid hcg2
  have HCRL := Lib.hid hcrl
  have HZ := Lib.hid hz
  clear hcg2 heq M0 hcrl hz hs5 hrd5 hc5 hown4 hs8 HCG HT
  go_wp2_with fail
  go_loopw [11, 12] (fun v11 v12 wr => ∃ j : Nat, j ≤ k ∧ v12 = .int .i64 j ∧ v11 = .int .i64 (zeros b j : Nat) ∧ w4 = wr) (fun _ v12 _ => k - (intOf v12).toNat)
  case atStart => exact ⟨0, by omega, rfl, rfl, rfl⟩
  case round =>
    obtain ⟨j, hj, rfl, rfl, rfl⟩ := hrel
    by_cases hlt : j < k
    case pos =>
      have hltI : (j : Int) < (k : Int) := by omega
      obtain ⟨bb, oo, rfl, hbb, hcell⟩ := hrb.at (k := j) (by simp [bools, blN_len]; omega)
      obtain ⟨bi, hbi⟩ : ∃ x, x = bitAt b j := ⟨_, rfl⟩
      have hck := hcell j (.bool bi) (by rw [hbi]; simp [bools, blN, hlt])
      have hzs := zeros_snoc b j
      have hzl := zeros_le b j
      rw [← hbi] at hzs
      have HZS := Lib.hid hzs
      clear hcell hbi hzs
      cases bi
      · go_wp2_with fail
        go_roundw
        case rel => exact ⟨j + 1, by omega, by go_num, by rw [HZS.out]; go_num, by trivial⟩
        case measure => simp [intOf]; omega
      · go_wp2_with fail
        go_roundw
        case rel => exact ⟨j + 1, by omega, by go_num, by rw [HZS.out]; rfl, by trivial⟩
        case measure => simp [intOf]; omega
    have hjk : j = k := by omega
    subst hjk
    have hgeI : ¬ ((j : Int) < (j : Int)) := by omega
    rw [← HZ.out]
    clear hlt
    go_wp2_with fail
    refine HM.out.mono ?_; rintro e w5 ⟨A6, c6, rfl, hown5, hb5⟩
    dsimp only at hown5
    dsimp only
    have hb05 : Below w.heap.size w w5 := hb4.trans (hb5.mono hz04)
    have hz05 := hb05.size
    by_cases her : er = 0
    case neg =>
      have hE : cget t b j = ([], er) := by rw [HCG2.out, if_pos her]
      have HE := Lib.hid hE
      have herI : ((er : Int) != 0) = true := by simp; omega
      clear hE her
      go_wp2_with fail
      go_ret2
      exact retVE_err HE.out hb05
    have hE : cget t b j = (merge b 0 j lm, 0) := by rw [HCG2.out, if_neg (by simpa using her)]
    have hll := HCRL.out her
    have HE := Lib.hid hE
    have HLL := Lib.hid hll
    have herI : ((er : Int) != 0) = false := by simp; omega
    have hrd5 := rd_own hown5
    have hrb5 := (hrb.below hb5).more hb5.size
    have hc6 : lm.length ≤ c6 := own_le hown5
    clear hE her hll hown5 hsl5
    go_wp2_with fail
    obtain ⟨wo, hwo⟩ : ∃ wo, wo = w4 := ⟨_, rfl⟩
    go_loopw [13, 14, 15] (fun v13 v14 v15 wr => ∃ (i m : Nat) (acc lr : List V) (A7 : Option Addr) (c7 : Nat), i ≤ j ∧ v15 = .int .i64 i ∧ acc.length = i ∧ v13 = .slice A7 m c7 ∧ m = lr.length ∧ m ≤ c7 ∧ Rd wr w5.heap.size A7 (vcells lr) ∧ m + zeros b i = z ∧ acc ++ merge b i (j - i) lr = merge b 0 j lm ∧
        wr.ownsRow w5.heap.size 38 3 v14 i (vcells acc) ∧ Below w5.heap.size w5 wr) (fun _ _ v15 _ => j - (intOf v15).toNat)
    case atStart =>
      exact ⟨0, lm.length, [], lm, A6, c6, by omega, rfl, rfl, rfl, rfl, hc6, hrd5, by rw [HLL.out]; rfl, rfl, World.ownsRow_nil _ _ _ _, Below.refl _ _⟩
    case round =>
      clear hrd5 hc6
      obtain ⟨i, m, acc, lr, A7, c7, hi, rfl, hacc, rfl, hm, hmc, hrd, hmz, hmer, hown, hbel⟩ := hrel
      have hzr := hbel.size
      have HM2 := Lib.hid hm
      have HACC := Lib.hid hacc
      have HMZ := Lib.hid hmz
      have HMER := Lib.hid hmer
      have hb0r : Below w.heap.size w wr := hb05.trans (hbel.mono hz05)
      clear hm hacc hmz hmer
      by_cases hlt : i < j
      case neg =>
        have hij : i = j := by omega
        have hgeI : ¬ ((i : Int) < (j : Int)) := by omega
        have hfin : acc = merge b 0 j lm := by
          have h := HMER.out
          rw [hij, Nat.sub_self] at h
          rw [← h]; simp [merge]
        have hown2 : wr.ownsRow w.heap.size 38 3 u14 (merge b 0 j lm).length (vcells (merge b 0 j lm)) := by
          have h := own_lower hown hz05
          rw [hfin, hij] at h
          rw [merge_len]; exact h
        have HO := Lib.hid hown2
        clear hij hfin hown2
        go_wp2_with fail
        go_ret2
        exact retVE_ok HE.out HO.out hb0r
      have hltI : (i : Int) < (j : Int) := by omega
      obtain ⟨bb, oo, rfl, hbb, hcell⟩ := hrb5.at (k := i) (by simp [bools, blN_len]; omega)
      have hck0 := hcell i (.bool (bitAt b i)) (by rw [List.getElem?_map, blN_get hlt]; rfl)
      have hck := (hbel.cell (p := ⟨bb, oo + i, none⟩) hbb).trans hck0
      obtain ⟨bi, hbi⟩ : ∃ x, x = bitAt b i := ⟨_, rfl⟩
      rw [← hbi] at hck
      have HBI := Lib.hid hbi
      have hji : j - i = (j - (i + 1)) + 1 := by omega
      have HJI := Lib.hid hji
      have hzs := zeros_snoc b i
      rw [← hbi] at hzs
      have hzm := zeros_mono b (show i + 1 ≤ j by omega)
      have HZS := Lib.hid hzs
      have HZM := Lib.hid hzm
      clear hcell hck0 hbi hji hzs hzm
      cases bi
      case true =>
        go_wp2_with (at_builtin; refine wpList_app HEL rfl _ _ rfl (hown.alloc _) rfl rfl (cv_three null rfl) rfl (cv_one _) (by unfold maxLen; omega) (by have : (i + 1) * by_ ≤ 65537 * 64 := Nat.mul_le_mul (by omega) hby; omega) (by simp; omega) ?_; intro v8 w8 hown8 hg8 ho8)
        have hb8 : Below w5.heap.size w5 w8 := (hbel.alloc hzr _).trans (own_below (hown.alloc _) hg8 (by simp; omega))
        have hb8r : Below w5.heap.size wr w8 := ((Below.refl _ _).alloc hzr _).trans (own_below (hown.alloc _) hg8 (by simp; omega))
        go_roundw
        case rel =>
          refine ⟨i + 1, m, acc ++ [null], lr, A7, c7, by omega, by go_num, by simp [HACC.out], rfl, HM2.out, hmc, hrd.below hb8r, ?_, ?_, ?_, hb8⟩
          · rw [HZS.out]; exact HMZ.out
          · rw [← HMER.out, HJI.out, merge_null HBI.out.symm, List.append_assoc]; rfl
          · rw [vcells_snoc]; exact hown8
        case measure => simp [intOf]; omega
      have hm1 : 1 ≤ m := by
        have h1 := HZS.out
        have h2 := HZM.out
        have h3 := HMZ.out
        rw [← HZ.out] at h2
        simp at h1
        omega
      obtain ⟨v, lr', hlr⟩ : ∃ v lr', lr = v :: lr' := by
        rcases lr with _ | ⟨v, lr'⟩
        · have := HM2.out; simp at this; omega
        · exact ⟨v, lr', rfl⟩
      subst hlr
      obtain ⟨bv, ov, rfl, hbv, e0, e1, e2⟩ := rd_val hrd (i := 0) (v := v) rfl
      rw [Nat.zero_mul, Nat.add_zero] at e0 e1 e2
      have hsl := fun w' => from_vals (some ⟨bv, ov, none⟩) m c7 1 hm1 w' (1 : Int) rfl
      have hrd8 := hrd.cut 3 (c7 = 1) (fun e => by have := HM2.out; rw [vcells_length]; omega)
      rw [show (vcells (v :: lr')).drop 3 = vcells lr' from rfl] at hrd8
      obtain ⟨A8, hA8⟩ : ∃ A8, A8 = (if c7 = 1 then some (⟨bv, ov, none⟩ : Addr) else (some (⟨bv, ov, none⟩ : Addr)).map (·.add (1 * 3))) := ⟨_, rfl⟩
      have hrd9 : Rd wr w5.heap.size A8 (vcells lr') := by rw [hA8]; exact hrd8
      rw [← hA8] at hsl
      have hm1I : (0 : Int) < (m : Int) := by omega
      have hm10 : 0 < m := by omega
      have hlm : m - 1 = lr'.length := by have := HM2.out; simp at this; omega
      have HLM := Lib.hid hlm
      clear hrd8 hA8 hlm
      go_wp2_with (at_builtin; refine wpList_app HEL rfl _ _ rfl (hown.alloc _) rfl rfl (cv_three v rfl) rfl (cv_one _) (by unfold maxLen; omega) (by have : (i + 1) * by_ ≤ 65537 * 64 := Nat.mul_le_mul (by omega) hby; omega) (by simp; omega) ?_; intro v8 w8 hown8 hg8 ho8)
      have hb8 : Below w5.heap.size w5 w8 := (hbel.alloc hzr _).trans (own_below (hown.alloc _) hg8 (by simp; omega))
      have hb8r : Below w5.heap.size wr w8 := ((Below.refl _ _).alloc hzr _).trans (own_below (hown.alloc _) hg8 (by simp; omega))
      go_roundw
      case rel =>
        refine ⟨i + 1, m - 1, acc ++ [v], lr', A8, c7 - 1, by omega, by go_num, by simp [HACC.out], rfl, HLM.out, by omega, hrd9.below hb8r, ?_, ?_, ?_, hb8⟩
        · rw [HZS.out]
          have := HMZ.out
          simp; omega
        · rw [← HMER.out, HJI.out, merge_mark HBI.out.symm, List.append_assoc]; rfl
        · rw [vcells_snoc]; exact hown8
      case measure => simp [intOf]; omega
end Go.Proofs.Ytiijnfakphhbeaa

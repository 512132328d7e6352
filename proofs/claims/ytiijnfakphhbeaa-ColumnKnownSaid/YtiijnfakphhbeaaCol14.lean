/- The walk of column.Get (layer 6). It answers cget, in new memory. -/
import Derived.Test.YtiijnfakphhbeaaCol13
import Derived.Test.YtiijnfakphhbeaaColP4
namespace Go.Proofs.Ytiijnfakphhbeaa
open Go.RowKit Go.Maps
set_option linter.unusedVariables false
set_option linter.unusedSimpArgs false

set_option maxHeartbeats 8000000 in
set_option maxRecDepth 100000 in
theorem cget_any (B : Nat) (A : Option Addr) (c : Nat) (t : UInt8) (b : List UInt8) (n : Int) (w : World) (hr : Rd w B A (cells b)) (hc : b.length ≤ c) (hB : B ≤ w.heap.size) (hn63 : i64r n) (hb : b.length ≤ 4294967296)
    (hbn : 0 ≤ n → n ≤ 65536 → (n.toNat + 1) * (b.length + 10) ≤ 4000000000) :
    Calls Try.prog 16 #[b8 t, .slice A b.length c, .int .i64 n] w (RetVE w (cget t b n)) := by
  have HBN := Lib.hid hbn
  obtain ⟨tb, htb⟩ : ∃ tb, tb = tyok t := ⟨_, rfl⟩
  have HTB := Lib.hid htb
  obtain ⟨f, hf⟩ : ∃ f, f = cputF t.toNat := ⟨_, rfl⟩
  obtain ⟨g, hg⟩ : ∃ g, g = cgetF t.toNat := ⟨_, rfl⟩
  have HG := Lib.hid hg
  have hf1 : f.oneCell' = true := by rw [hf]; exact cputF_one _
  have hg1 : g.oneCell' = true := by rw [hg]; exact cgetF_one _
  have hlook : ∀ (W : World) (b : Nat), W.ownsMap Try.prog 5 wayE b 3 ctab → (Instr.lookup 53 (.map (some b)) (b8 t) true).run Try.prog W = .ok (.tuple #[.agg #[f, g], .bool tb]) W := fun W b h => by rw [hf, hg, htb]; exact clook h t
  have HL := Lib.hid hlook
  have HF1 := Lib.hid hf1
  have HG1 := Lib.hid hg1
  clear hbn htb hf hg hf1 hg1 hlook
  go_enter Try.func16, Try.ntmps16
  go_wp2_with fail
  refine (cways_any _).mono ?_; rintro e w2 ⟨rfl, hm2, hb2⟩
  have hlk := HL.out w2 _ hm2
  have hs0 : (store ⟨w2.heap.size, 0, none⟩ f).run Try.prog (w2.alloc (.cells #[.nilFunc, .nilFunc] 51)) = .ok () (w2.alloc (.cells #[f, .nilFunc] 51)) := by
    rw [store_fn HF1.out (u := .nilFunc) (by simp [go_sem]) (by simp [go_sem])]; simp [go_sem]
  have hs1 : (store ⟨w2.heap.size, 1, none⟩ g).run Try.prog (w2.alloc (.cells #[f, .nilFunc] 51)) = .ok () (w2.alloc (.cells #[f, g] 51)) := by
    rw [store_fn HG1.out (u := .nilFunc) (by simp [go_sem]) (by simp [go_sem])]; simp [go_sem]
  cases tb
  · have hE : cget t b n = ([], 1) := by unfold cget; rw [if_pos (.inl HTB.out.symm)]
    have HE := Lib.hid hE
    clear hE
    go_wp2_with fail
    go_ret2
    exact retVE_err HE.out (hb2.alloc hb2.size _)
  by_cases hneg : n < 0
  · have hE : cget t b n = ([], 1) := by unfold cget; rw [if_pos (.inr (.inl hneg))]
    have HE := Lib.hid hE
    clear hE
    go_wp2_with fail
    go_ret2
    exact retVE_err HE.out (hb2.alloc hb2.size _)
  by_cases hbig : 65536 < n
  · have hE : cget t b n = ([], 1) := by unfold cget; rw [if_pos (.inr (.inr hbig))]
    have HE := Lib.hid hE
    clear hE
    go_wp2_with fail
    go_ret2
    exact retVE_err HE.out (hb2.alloc hb2.size _)
  obtain ⟨k, rfl⟩ : ∃ k : Nat, n = k := ⟨n.toNat, by omega⟩
  have hk : k ≤ 65536 := by omega
  have hcg : cget t b k = if tkE b k ≠ 0 then ([], tkE b k) else if (cread t (b.drop (size8 k)) (zeros b k)).2 ≠ 0 then ([], (cread t (b.drop (size8 k)) (zeros b k)).2) else (merge b 0 k (cread t (b.drop (size8 k)) (zeros b k)).1, 0) := by
    unfold cget
    rw [if_neg (by rw [← HTB.out]; simp; omega)]
    simp only [Int.toNat_natCast]
  have HCG := Lib.hid hcg
  obtain ⟨p, hp⟩ : ∃ p, p = w2.heap.size := ⟨_, rfl⟩
  obtain ⟨w3, hw3⟩ : ∃ w3, w3 = w2.alloc (.cells #[f, g] 51) := ⟨_, rfl⟩
  have hb3 : Below w.heap.size w w3 := by rw [hw3]; exact hb2.alloc hb2.size _
  have d1 : w3.cell? ⟨p, 1, none⟩ = some g := by rw [hw3, hp]; simp [go_sem]
  have T0 := take_any B A c b k w3 (hr.below (hb3.mono hB)) hc (by have := hb3.size; omega) hk hb
  rw [hw3] at T0
  have HT := Lib.hid T0
  clear T0 hcg
  go_wp2_with fail
  refine HT.out.mono ?_; intro e w4 hret
  rw [← hw3] at hret
  have hz3 := hb3.size
  rcases hret with ⟨hne, rfl, hb4⟩ | ⟨heq, A4, c4, A5, c5, rfl, hown4, hrd4, hc5, hb4⟩
  · have hE : cget t b k = ([], tkE b k) := by rw [HCG.out, if_pos hne]
    have HE := Lib.hid hE
    have hneI : ((tkE b k : Int) != 0) = true := by simp; omega
    clear hE hne
    go_wp2_with fail
    go_ret2
    exact retVE_err HE.out (hb3.trans (hb4.mono hz3))
  have hcg2 : cget t b k = if (cread t (b.drop (size8 k)) (zeros b k)).2 ≠ 0 then ([], (cread t (b.drop (size8 k)) (zeros b k)).2) else (merge b 0 k (cread t (b.drop (size8 k)) (zeros b k)).1, 0) := by rw [HCG.out, if_neg (by simpa using heq)]
  have HCG2 := Lib.hid hcg2
  rw [hp] at d1
  have d4 := cell_be d1 hb4 (cell_lt d1)
  have hb04 : Below w.heap.size w w4 := hb3.trans (hb4.mono hz3)
  have hz04 := hb04.size
  have hrl4 := rd_own hown4
  clear hcg2 heq hw3 hp hm2 hs0 hs1 hlk d1 HT HCG
  go_wp2_with fail
  go_loopw [13, 48] (fun v13 v48 wr => ∃ j : Nat, j ≤ k ∧ v48 = .int .i64 j ∧ v13 = .int .i64 (zeros b j : Nat) ∧ w4 = wr) (fun _ v48 _ => k - (intOf v48).toNat)
  case atStart => exact ⟨0, by omega, rfl, rfl, rfl⟩
  case round =>
    obtain ⟨j, hj, rfl, rfl, rfl⟩ := hrel
    by_cases hlt : j < k
    case pos =>
      have hltI : (j : Int) < (k : Int) := by omega
      obtain ⟨bb, oo, rfl, hbb, hcell⟩ := hrl4.at (k := j) (by simp [bools, blN_len]; omega)
      obtain ⟨bi, hbi⟩ : ∃ x, x = bitAt b j := ⟨_, rfl⟩
      have hck := hcell j (.bool bi) (by rw [hbi]; simp [bools, blN, hlt])
      have hzs := zeros_snoc b j
      have hzl := zeros_le b j
      rw [← hbi] at hzs
      have HZ := Lib.hid hzs
      clear hcell hbi hzs
      cases bi
      · go_wp2_with fail
        go_roundw
        case rel => exact ⟨j + 1, by omega, by go_num, by rw [HZ.out]; go_num, by trivial⟩
        case measure => simp [intOf]; omega
      · go_wp2_with fail
        go_roundw
        case rel => exact ⟨j + 1, by omega, by go_num, by rw [HZ.out]; rfl, by trivial⟩
        case measure => simp [intOf]; omega
    have hjk : j = k := by omega
    subst hjk
    have hgeI : ¬ ((j : Int) < (j : Int)) := by omega
    obtain ⟨fn, hfn, hent, hget⟩ := get_way HTB.out.symm
    obtain rfl : g = .func (.func fn) #[] #[] := HG.out.trans hfn
    have hzl := zeros_le b j
    have hbn2 := HBN.out (by omega) (by omega)
    rw [Int.toNat_natCast] at hbn2
    have hdl : (b.drop (size8 j)).length ≤ b.length := by rw [List.length_drop]; omega
    have G0 := hget B A5 c5 (b.drop (size8 j)) (zeros b j) w4 hrd4 hc5 (by omega) (by omega) (Nat.le_trans (Nat.mul_le_mul (by omega) (by omega)) hbn2)
    have hrl := @cread_len t (b.drop (size8 j)) (zeros b j)
    obtain ⟨z, hz⟩ : ∃ z, z = zeros b j := ⟨_, rfl⟩
    rw [← hz] at G0 hzl hrl HCG2 ⊢
    have HZ := Lib.hid hz
    generalize cread t (b.drop (size8 j)) z = x at *
    obtain ⟨lm, er⟩ := x
    dsimp only at G0 hrl HCG2
    have HRL := Lib.hid hrl
    rw [List.length_drop] at G0
    have HG5 := Lib.hid G0
    have HHL := Lib.hid hrl4
    have hd4 := d4
    clear hz hrl G0 hrl4 hget hfn hlt hown4 hrd4
    go_wp2_with fail
    refine HG5.out.mono ?_; rintro e w5 ⟨A6, c6, rfl, hown5, hb5⟩
    dsimp only at hown5
    dsimp only
    have hb05 : Below w.heap.size w w5 := hb04.trans (hb5.mono hz04)
    have hz05 := hb05.size
    by_cases her : er = 0
    case neg =>
      have hE : cget t b j = ([], er) := by rw [HCG2.out, if_pos her]
      have HE := Lib.hid hE
      have herI : ((er : Int) != 0) = true := by simp; omega
      clear hE her
      go_wp2_with fail
      go_ret2
      exact retVE_err HE.out hb05
    have hE : cget t b j = (merge b 0 j lm, 0) := by rw [HCG2.out, if_neg (by simpa using her)]
    have hll := HRL.out her
    have HE := Lib.hid hE
    have HLL := Lib.hid hll
    have herI : ((er : Int) != 0) = false := by simp; omega
    have hrd5 := rd_own hown5
    have hrb5 := (HHL.out.below hb5).more hb5.size
    have hc6 : lm.length ≤ c6 := own_le hown5
    obtain ⟨by_, hinfo, hby⟩ := Try.infoVal
    obtain ⟨i0, hi, hz0, hz1, hz2⟩ := info_parts hinfo
    obtain ⟨w6, hmk, hown, hg⟩ := run_make_full (P := Try.prog) w5 w5.heap.size 22 38 i0 (.agg #[.int .u8 0, .int .i64 0, .string ByteArray.empty]) 3 Try.underlying22 hi hz0 hz1 .i64 .i64 j (by rw [hz2]; exact Nat.le_trans (Nat.mul_le_mul hby hk) (by decide)) (by unfold maxLen; omega) (Nat.le_refl _)
    have hmk2 : (Instr.makeSlice 22 (.int .i64 (j : Int)) (.int .i64 (j : Int))).run Try.prog w5 = .ok (.slice (some ⟨w5.heap.size, 0, none⟩) j j) w6 := hmk
    have hown6 : w6.ownsRow w5.heap.size 38 3 (.slice (some ⟨w5.heap.size, 0, none⟩) j j) j (vcells (List.replicate j null)) := by
      have h := hown
      rwa [vcells_rep null j (Value.agg #[.int .u8 0, .int .i64 0, .string ByteArray.empty]).cells rfl] at h
    have hb6 : Below w5.heap.size w5 w6 := (Below.refl _ w5).grown hg (Nat.le_refl _) (by simp)
    have hrd6 := hrd5.below hb6
    clear hmk hown hi hz0 hz1 hz2 hg hinfo hE her hll hown5 hrd5 hent hd4 d4
    go_wp2_with fail
    obtain ⟨g, hgg⟩ : ∃ g, g = w5.heap.size := ⟨_, rfl⟩
    rw [← hgg] at hown6 hb6 hrd6 hrb5 hmk2 hz05 ⊢
    clear hgg hmk2
    obtain ⟨wo, hwo⟩ : ∃ wo, wo = w4 := ⟨_, rfl⟩
    go_loopw [16, 72] (fun v16 v72 wr => ∃ (i m : Nat) (acc lr : List V) (A7 : Option Addr) (c7 : Nat), i ≤ j ∧ v72 = .int .i64 i ∧ acc.length = i ∧ v16 = .slice A7 m c7 ∧ m = lr.length ∧ m ≤ c7 ∧ Rd wr g A7 (vcells lr) ∧ m + zeros b i = z ∧ acc ++ merge b i (j - i) lr = merge b 0 j lm ∧
        wr.ownsRow g 38 3 (.slice (some ⟨g, 0, none⟩) j j) j (vcells (acc ++ List.replicate (j - i) null)) ∧ Below g w5 wr) (fun _ v72 _ => j - (intOf v72).toNat)
    case atStart =>
      exact ⟨0, lm.length, [], lm, A6, c6, by omega, rfl, rfl, rfl, rfl, hc6, hrd6, by rw [HLL.out]; rfl, rfl, hown6, hb6⟩
    case round =>
      clear hown6 hb6 hrd6 hc6
      obtain ⟨i, m, acc, lr, A7, c7, hi, rfl, hacc, rfl, hm, hmc, hrd, hmz, hmer, hown, hbel⟩ := hrel
      have HM := Lib.hid hm
      have HACC := Lib.hid hacc
      have HMZ := Lib.hid hmz
      have HMER := Lib.hid hmer
      have hb0r : Below w.heap.size w wr := hb05.trans (hbel.mono hz05)
      clear hm hacc hmz hmer
      by_cases hlt : i < j
      case neg =>
        have hij : i = j := by omega
        have hgeI : ¬ ((i : Int) < (j : Int)) := by omega
        have hfin : acc = merge b 0 j lm := by
          have h := HMER.out
          rw [hij, Nat.sub_self] at h
          rw [← h]; simp [merge]
        have hown2 : wr.ownsRow w.heap.size 38 3 (.slice (some ⟨g, 0, none⟩) j j) (merge b 0 j lm).length (vcells (merge b 0 j lm)) := by
          have h := hown
          rw [hij, Nat.sub_self, List.replicate_zero, List.append_nil, hfin] at h
          rw [merge_len]; exact own_lower h hz05
        have HO := Lib.hid hown2
        clear hij hfin hown2
        go_wp2_with fail
        go_ret2
        exact retVE_ok HE.out HO.out hb0r
      have hltI : (i : Int) < (j : Int) := by omega
      obtain ⟨bb, oo, rfl, hbb, hcell⟩ := hrb5.at (k := i) (by simp [bools, blN_len]; omega)
      have hck0 := hcell i (.bool (bitAt b i)) (by rw [List.getElem?_map, blN_get hlt]; rfl)
      have hck := (hbel.cell (p := ⟨bb, oo + i, none⟩) hbb).trans hck0
      obtain ⟨bi, hbi⟩ : ∃ x, x = bitAt b i := ⟨_, rfl⟩
      rw [← hbi] at hck
      have HBI := Lib.hid hbi
      have hji : j - i = (j - (i + 1)) + 1 := by omega
      have HJI := Lib.hid hji
      have hzs := zeros_snoc b i
      rw [← hbi] at hzs
      have hzm := zeros_mono b (show i + 1 ≤ j by omega)
      have HZS := Lib.hid hzs
      have HZM := Lib.hid hzm
      clear hcell hck0 hbi hji hzs hzm
      cases bi
      case true =>
        go_wp2_with fail
        go_roundw
        case rel =>
          refine ⟨i + 1, m, acc ++ [null], lr, A7, c7, by omega, by go_num, by simp [HACC.out], rfl, HM.out, hmc, hrd, ?_, ?_, ?_, hbel⟩
          · rw [HZS.out]; exact HMZ.out
          · rw [← HMER.out, HJI.out, merge_null HBI.out.symm, List.append_assoc]; rfl
          · have e : acc ++ [null] ++ List.replicate (j - (i + 1)) null = acc ++ List.replicate (j - i) null := by
              rw [HJI.out, List.replicate_succ, List.append_assoc]; rfl
            rw [e]; exact hown
        case measure => simp [intOf]; omega
      have hm1 : 1 ≤ m := by
        have h1 := HZS.out
        have h2 := HZM.out
        have h3 := HMZ.out
        rw [← HZ.out] at h2
        simp at h1
        omega
      obtain ⟨v, lr', hlr⟩ : ∃ v lr', lr = v :: lr' := by
        rcases lr with _ | ⟨v, lr'⟩
        · have := HM.out; simp at this; omega
        · exact ⟨v, lr', rfl⟩
      subst hlr
      obtain ⟨bv, ov, rfl, hbv, e0, e1, e2⟩ := rd_val hrd (i := 0) (v := v) rfl
      rw [Nat.zero_mul, Nat.add_zero] at e0 e1 e2
      have hsl := fun w' => from_vals (some ⟨bv, ov, none⟩) m c7 1 hm1 w' (1 : Int) rfl
      have hrd8 := hrd.cut 3 (c7 = 1) (fun e => by have := HM.out; rw [vcells_length]; omega)
      rw [show (vcells (v :: lr')).drop 3 = vcells lr' from rfl] at hrd8
      obtain ⟨A8, hA8⟩ : ∃ A8, A8 = (if c7 = 1 then some (⟨bv, ov, none⟩ : Addr) else (some (⟨bv, ov, none⟩ : Addr)).map (·.add (1 * 3))) := ⟨_, rfl⟩
      have hrd9 : Rd wr g A8 (vcells lr') := by rw [hA8]; exact hrd8
      rw [← hA8] at hsl
      have hm1I : (0 : Int) < (m : Int) := by omega
      have hlm : m - 1 = lr'.length := by have := HM.out; simp at this; omega
      have HLM := Lib.hid hlm
      have hbvg : bv ≠ g := by omega
      have ca := hown.cellAt (i * 3) (by omega)
      have cb := hown.cellAt (i * 3 + 1) (by omega)
      have cc := hown.cellAt (i * 3 + 2) (by omega)
      have hgl : (acc ++ List.replicate (j - i) null)[i]? = some null := by
        rw [List.getElem?_append_right (by rw [HACC.out]; omega), HACC.out, Nat.sub_self, List.getElem?_replicate, if_pos (by omega)]
      obtain ⟨q1, q2, q3⟩ := vcells_at _ _ _ hgl
      rw [q1] at ca; rw [q2] at cb; rw [q3] at cc
      have fa := hown.frozenAt (i * 3)
      have fb := hown.frozenAt (i * 3 + 1)
      have fc := hown.frozenAt (i * 3 + 2)
      clear hrd8 hA8 hlm q1 q2 q3 hgl
      go_wp2_with fail
      refine ah_start 10 (fun w' => Keep g wr w') rfl (by kernel_rfl) (Keep.refl _ _) ?_ ; intro hS
      (refine mv_val 0 (v := ?_) rfl (by kernel_rfl) (by kernel_rfl) (by kernel_rfl) (fun _ _ _ h => h) (by rfl) hS ?_ ?_; rotate_left; (focus (intro w hSw; (try dsimp only at hSw); (have f1 := hSw.cell (p := ⟨bv, ov, none⟩) hbvg e0; have f2 := hSw.cell (p := ⟨bv, ov + 1, none⟩) hbvg e1; have f3 := hSw.cell (p := ⟨bv, ov + 2, none⟩) hbvg e2; have f4 := hsl w; have f5 := hm1I; have f6 := hltI; have f7 := hlt; have f8 : 0 < m := hm1); go_simp; first | done | with_reducible rfl)); simp only [Act.put, List.setIfInBounds_toArray, List.set_cons_zero, List.set_cons_succ])
      (refine mv_val 1 (v := ?_) rfl (by kernel_rfl) (by kernel_rfl) (by kernel_rfl) (fun _ _ _ h => h) (by rfl) hS ?_ ?_; rotate_left; (focus (intro w hSw; (try dsimp only at hSw); (have f1 := hSw.cell (p := ⟨bv, ov, none⟩) hbvg e0; have f2 := hSw.cell (p := ⟨bv, ov + 1, none⟩) hbvg e1; have f3 := hSw.cell (p := ⟨bv, ov + 2, none⟩) hbvg e2; have f4 := hsl w; have f5 := hm1I; have f6 := hltI; have f7 := hlt; have f8 : 0 < m := hm1); go_simp; first | done | with_reducible rfl)); simp only [Act.put, List.setIfInBounds_toArray, List.set_cons_zero, List.set_cons_succ])
      (refine mv_val 2 (v := ?_) rfl (by kernel_rfl) (by kernel_rfl) (by kernel_rfl) (fun _ _ _ h => h) (by rfl) hS ?_ ?_; rotate_left; (focus (intro w hSw; (try dsimp only at hSw); (have f1 := hSw.cell (p := ⟨bv, ov, none⟩) hbvg e0; have f2 := hSw.cell (p := ⟨bv, ov + 1, none⟩) hbvg e1; have f3 := hSw.cell (p := ⟨bv, ov + 2, none⟩) hbvg e2; have f4 := hsl w; have f5 := hm1I; have f6 := hltI; have f7 := hlt; have f8 : 0 < m := hm1); go_simp; first | done | with_reducible rfl)); simp only [Act.put, List.setIfInBounds_toArray, List.set_cons_zero, List.set_cons_succ])
      (refine mv_val 3 (v := ?_) rfl (by kernel_rfl) (by kernel_rfl) (by kernel_rfl) (fun _ _ _ h => h) (by rfl) hS ?_ ?_; rotate_left; (focus (intro w hSw; (try dsimp only at hSw); (have f1 := hSw.cell (p := ⟨bv, ov, none⟩) hbvg e0; have f2 := hSw.cell (p := ⟨bv, ov + 1, none⟩) hbvg e1; have f3 := hSw.cell (p := ⟨bv, ov + 2, none⟩) hbvg e2; have f4 := hsl w; have f5 := hm1I; have f6 := hltI; have f7 := hlt; have f8 : 0 < m := hm1); go_simp; first | done | with_reducible rfl)); simp only [Act.put, List.setIfInBounds_toArray, List.set_cons_zero, List.set_cons_succ])
      (refine mv_val 4 (v := ?_) rfl (by kernel_rfl) (by kernel_rfl) (by kernel_rfl) (fun _ _ _ h => h) (by rfl) hS ?_ ?_; rotate_left; (focus (intro w hSw; (try dsimp only at hSw); (have f1 := hSw.cell (p := ⟨bv, ov, none⟩) hbvg e0; have f2 := hSw.cell (p := ⟨bv, ov + 1, none⟩) hbvg e1; have f3 := hSw.cell (p := ⟨bv, ov + 2, none⟩) hbvg e2; have f4 := hsl w; have f5 := hm1I; have f6 := hltI; have f7 := hlt; have f8 : 0 < m := hm1); go_simp; first | done | with_reducible rfl)); simp only [Act.put, List.setIfInBounds_toArray, List.set_cons_zero, List.set_cons_succ])
      (refine mv_val 5 (v := ?_) rfl (by kernel_rfl) (by kernel_rfl) (by kernel_rfl) (fun _ _ _ h => h) (by rfl) hS ?_ ?_; rotate_left; (focus (intro w hSw; (try dsimp only at hSw); (have f1 := hSw.cell (p := ⟨bv, ov, none⟩) hbvg e0; have f2 := hSw.cell (p := ⟨bv, ov + 1, none⟩) hbvg e1; have f3 := hSw.cell (p := ⟨bv, ov + 2, none⟩) hbvg e2; have f4 := hsl w; have f5 := hm1I; have f6 := hltI; have f7 := hlt; have f8 : 0 < m := hm1); go_simp; first | done | with_reducible rfl)); simp only [Act.put, List.setIfInBounds_toArray, List.set_cons_zero, List.set_cons_succ])
      (refine mv_val 6 (v := ?_) rfl (by kernel_rfl) (by kernel_rfl) (by kernel_rfl) (fun _ _ _ h => h) (by rfl) hS ?_ ?_; rotate_left; (focus (intro w hSw; (try dsimp only at hSw); (have f1 := hSw.cell (p := ⟨bv, ov, none⟩) hbvg e0; have f2 := hSw.cell (p := ⟨bv, ov + 1, none⟩) hbvg e1; have f3 := hSw.cell (p := ⟨bv, ov + 2, none⟩) hbvg e2; have f4 := hsl w; have f5 := hm1I; have f6 := hltI; have f7 := hlt; have f8 : 0 < m := hm1); go_simp; first | done | with_reducible rfl)); simp only [Act.put, List.setIfInBounds_toArray, List.set_cons_zero, List.set_cons_succ])
      (refine mv_val 7 (v := ?_) rfl (by kernel_rfl) (by kernel_rfl) (by kernel_rfl) (fun _ _ _ h => h) (by rfl) hS ?_ ?_; rotate_left; (focus (intro w hSw; (try dsimp only at hSw); (have f1 := hSw.cell (p := ⟨bv, ov, none⟩) hbvg e0; have f2 := hSw.cell (p := ⟨bv, ov + 1, none⟩) hbvg e1; have f3 := hSw.cell (p := ⟨bv, ov + 2, none⟩) hbvg e2; have f4 := hsl w; have f5 := hm1I; have f6 := hltI; have f7 := hlt; have f8 : 0 < m := hm1); go_simp; first | done | with_reducible rfl)); simp only [Act.put, List.setIfInBounds_toArray, List.set_cons_zero, List.set_cons_succ])
      refine mv_step 8 rfl (by kernel_rfl) (by rfl) (fun K hK => ?_)
      go_simp
      refine hK _ _ ?_ ?_ <;> clear hK K
      · exact (((Keep.refl _ _).set _ _).set _ _).set _ _
      replace hS := (((Keep.refl g wr).set (i * 3) (.int .u8 (v.k : Int))).set (i * 3 + 1) (.int .i64 v.n)).set (i * 3 + 2) (txt v.t)
      try simp only [Act.put, List.setIfInBounds_toArray, List.set_cons_zero, List.set_cons_succ]
      (refine mv_val 9 (v := ?_) rfl (by kernel_rfl) (by kernel_rfl) (by kernel_rfl) (fun _ _ _ h => h) (by rfl) hS ?_ ?_; rotate_left; (focus (intro w hSw; (try dsimp only at hSw); (have f1 := hSw.cell (p := ⟨bv, ov, none⟩) hbvg e0; have f2 := hSw.cell (p := ⟨bv, ov + 1, none⟩) hbvg e1; have f3 := hSw.cell (p := ⟨bv, ov + 2, none⟩) hbvg e2; have f4 := hsl w; have f5 := hm1I; have f6 := hltI; have f7 := hlt; have f8 : 0 < m := hm1); go_simp; first | done | with_reducible rfl)); simp only [Act.put, List.setIfInBounds_toArray, List.set_cons_zero, List.set_cons_succ])
      refine wpAnyH_done (by kernel_rfl) ?_ _
      go_wp2_with fail
      go_roundw
      case rel =>
        refine ⟨i + 1, m - 1, acc ++ [v], lr', A8, c7 - 1, by omega, by go_num, by simp [HACC.out], rfl, HLM.out, by omega, ?_, ?_, ?_, ?_, ?_⟩
        · exact hrd9.below ((((Below.refl g wr).setCell (p := ⟨g, i * 3, none⟩) (Nat.le_refl _) _).setCell (p := ⟨g, i * 3 + 1, none⟩) (Nat.le_refl _) _).setCell (p := ⟨g, i * 3 + 2, none⟩) (Nat.le_refl _) _).drew
        · rw [HZS.out]
          have := HMZ.out
          simp; omega
        · rw [← HMER.out, HJI.out, merge_mark HBI.out.symm, List.append_assoc]; rfl
        · have h := own_set3 (l := acc ++ List.replicate (j - i) null) (i := i) hown v (by rw [List.length_append, List.length_replicate, HACC.out]; omega)
          have e : (acc ++ List.replicate (j - i) null).set i v = acc ++ [v] ++ List.replicate (j - (i + 1)) null := by
            rw [List.set_append_right _ _ (by rw [HACC.out]; omega), HACC.out, Nat.sub_self, HJI.out, List.replicate_succ, List.append_assoc]; rfl
          rw [e] at h
          exact h
        · exact (((hbel.setCell (p := ⟨g, i * 3, none⟩) (Nat.le_refl _) _).setCell (p := ⟨g, i * 3 + 1, none⟩) (Nat.le_refl _) _).setCell (p := ⟨g, i * 3 + 2, none⟩) (Nat.le_refl _) _).drew
      case measure => simp [intOf]; omega
end Go.Proofs.Ytiijnfakphhbeaa

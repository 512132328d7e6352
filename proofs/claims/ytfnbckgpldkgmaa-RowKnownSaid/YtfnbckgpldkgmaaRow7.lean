/- The walk of row.Get (layer 4): it answers rget, in new memory. No condition but sizes. -/
import Derived.Test.YtfnbckgpldkgmaaRow6
namespace Go.Proofs.Ytfnbckgpldkgmaa
open Go.RowKit Go.Maps
set_option linter.unusedVariables false
set_option linter.unusedSimpArgs false

theorem anyBit_iff (b : List UInt8) (i m : Nat) : anyBit b i m = true ↔ ∃ q, i ≤ q ∧ q < m ∧ bitAt b q = true := by
  unfold anyBit
  rw [List.any_eq_true]
  constructor
  · rintro ⟨q, hq, h⟩
    rw [List.mem_range'_1] at hq
    exact ⟨q, hq.1, by omega, h⟩
  · rintro ⟨q, h1, h2, h⟩
    exact ⟨q, by rw [List.mem_range'_1]; omega, h⟩
theorem vread_le (t : UInt8) (b : List UInt8) : (vread t b).2.1 ≤ b.length ∧ vok (vread t b).1 ∨ (vread t b).2.2 ≠ 0 ∨ maxLen < b.length := by
  have hv := vget_val b
  unfold vread
  split
  · match b with
    | [] => right; left; simp
    | c :: r =>
      dsimp only
      split
      · right; left; simp
      · left
        exact ⟨by simp, by have := c.toNat_lt; unfold vok i64r; dsimp only; refine ⟨by omega, by omega, by simp⟩⟩
  · split
    · right; left; assumption
    · split
      · left
        have hz := zag_bd ((vget b).1 : Int) (by omega) (by omega)
        exact ⟨hv.2.2, by unfold vok; dsimp only; exact ⟨by omega, hz, by simp⟩⟩
      · split
        · right; left; simp
        · by_cases hb : b.length ≤ maxLen
          · left
            refine ⟨by dsimp only; omega, ?_⟩
            unfold vok i64r; dsimp only
            refine ⟨by omega, by omega, ?_⟩
            rw [List.length_take, List.length_drop]; omega
          · right; right; omega
theorem get_any (t : UInt8) (ht : t.toNat = 1 ∨ t.toNat = 2 ∨ t.toNat = 3) (B : Nat) (A : Option Addr) (c : Nat) (b : List UInt8) (w : World) (hr : Rd w B A (cells b)) (hc : b.length ≤ c) (hB : B ≤ w.heap.size) (hlen : b.length ≤ 4294967296) :
    Calls Try.prog (get_no t.toNat) #[.slice A b.length c] w (RetR w (vread t b)) := by
  rcases ht with h | h | h
  · obtain rfl : t = 1 := UInt8.toNat_inj.1 h
    exact get1_any B A c b w hr hc hB hlen
  · obtain rfl : t = 2 := UInt8.toNat_inj.1 h
    exact get2_any B A c b w hr hc hB hlen
  · obtain rfl : t = 3 := UInt8.toNat_inj.1 h
    exact get3_any B A c b w hr hc hB hlen

set_option maxHeartbeats 4000000 in
set_option maxRecDepth 100000 in
theorem Get_row (B : Nat) (A A' : Option Addr) (c c' : Nat) (T b : List UInt8) (w : World) (hT : Rd w B A (cells T)) (hb : Rd w B A' (cells b)) (hB : B ≤ w.heap.size) (hcb : b.length ≤ c')
    (hTl : T.length ≤ 4294967296) (hbl : b.length ≤ 4294967296) :
    Calls Try.prog 14 #[.slice A T.length c, .slice A' b.length c'] w (RetVE w (rget T b)) := by
  have K0 := fun w h => known_any B A c T w h (by unfold maxLen; omega)
  obtain ⟨kn, hkn⟩ : ∃ x, x = knownT T := ⟨_, rfl⟩
  rw [← hkn] at K0
  have HK := Lib.hid K0
  have HKN := Lib.hid hkn
  clear K0 hkn
  cases kn
  case false =>
    have he : rget T b = ([], 1) := by unfold rget; rw [← HKN.out]; rfl
    have HE := Lib.hid he
    clear he
    go_enter Try.func14, Try.ntmps14
    go_wp2_with fail
    refine (HK.out _ hT).mono ?_; rintro e w1 ⟨rfl, rfl⟩
    go_wp2_with fail
    go_ret2
    exact retVE_err HE.out (Below.refl _ _)
  obtain ⟨n, hn⟩ : ∃ n, n = T.length := ⟨_, rfl⟩
  have h8l := size8_le T.length
  obtain ⟨m, hm⟩ : ∃ m, m = size8 T.length := ⟨_, rfl⟩
  have hmI : ((n : Int) + 7) / 8 = (m : Int) := by rw [hm, hn]; unfold size8; omega
  have hm8 : n ≤ 8 * m := by omega
  have hmn : m ≤ n + 7 := by rw [hm, hn]; unfold size8; omega
  obtain ⟨L, hL⟩ : ∃ L, L = b.length := ⟨_, rfl⟩
  have hrg : rget T b = if L < m then ([], 20) else if anyBit b n (8 * m) then ([], 21) else rvals b 0 T [] (b.drop m) := by
    unfold rget; rw [← HKN.out, if_neg (by simp), hL, hm, hn]
  have HRG := Lib.hid hrg
  rw [← hn] at HK hTl
  rw [← hn, ← hL]
  rw [← hL] at hbl hcb
  have HN := Lib.hid hn
  have HM := Lib.hid hm
  have HL := Lib.hid hL
  clear hn hm hL hrg h8l
  by_cases hLm : L < m
  case pos =>
    have he : rget T b = ([], 20) := by rw [HRG.out, if_pos hLm]
    have HE := Lib.hid he
    have hLI : (L : Int) < (m : Int) := by omega
    clear he
    go_enter Try.func14, Try.ntmps14
    go_wp2_with fail
    refine (HK.out _ hT).mono ?_; rintro e w1 ⟨rfl, rfl⟩
    go_wp2_with fail
    go_ret2
    exact retVE_err HE.out (Below.refl _ _)
  have hLI : (m : Int) ≤ (L : Int) := by omega
  have hs1 := fun w => upto_any (A := A') (n := L) (c := c') m (by omega) hcb w (m : Int) rfl
  obtain ⟨A2, c2, hs2, hrd2, hc2⟩ := from_any (A := A') (l := b) c' m (by rw [← HL.out]; omega) (by rw [← HL.out]; exact hcb) hb
  have hs2' := fun w => hs2 w (m : Int) rfl
  rw [← HL.out] at hs2'
  have hhead : Rd w B A' (cells (b.take m)) := by
    have := hb.take m
    unfold cells at *; rw [List.map_take]; exact this
  have hhl : (b.take m).length = m := by rw [List.length_take, ← HL.out]; omega
  obtain ⟨rest0, hr0⟩ : ∃ r, r = b.drop m := ⟨_, rfl⟩
  rw [← hr0] at hrd2 hc2 hs2'
  have HR0 := Lib.hid hr0
  clear hs2 hr0
  go_enter Try.func14, Try.ntmps14
  go_wp2_with fail
  refine (HK.out _ hT).mono ?_; rintro e w0 ⟨rfl, rfl⟩
  go_wp2_with fail
  refine ah_start 9 (fun w' => True) rfl (by kernel_rfl) trivial ?_ ; intro hS
  (refine mv_val 0 (v := ?_) rfl (by kernel_rfl) (by kernel_rfl) (by kernel_rfl) (fun _ _ _ h => h) (by rfl) hS ?_ ?_; rotate_left; (focus (intro w hSw; (try dsimp only at hSw); (have f1 := hs1 w; have f2 := hs2' w); go_simp; first | done | with_reducible rfl)); simp only [Act.put, List.setIfInBounds_toArray, List.set_cons_zero, List.set_cons_succ])
  (refine mv_val 1 (v := ?_) rfl (by kernel_rfl) (by kernel_rfl) (by kernel_rfl) (fun _ _ _ h => h) (by rfl) hS ?_ ?_; rotate_left; (focus (intro w hSw; (try dsimp only at hSw); (have f1 := hs1 w; have f2 := hs2' w); go_simp; first | done | with_reducible rfl)); simp only [Act.put, List.setIfInBounds_toArray, List.set_cons_zero, List.set_cons_succ])
  (refine mv_val 2 (v := ?_) rfl (by kernel_rfl) (by kernel_rfl) (by kernel_rfl) (fun _ _ _ h => h) (by rfl) hS ?_ ?_; rotate_left; (focus (intro w hSw; (try dsimp only at hSw); (have f1 := hs1 w; have f2 := hs2' w); go_simp; first | done | with_reducible rfl)); simp only [Act.put, List.setIfInBounds_toArray, List.set_cons_zero, List.set_cons_succ])
  (refine mv_val 3 (v := ?_) rfl (by kernel_rfl) (by kernel_rfl) (by kernel_rfl) (fun _ _ _ h => h) (by rfl) hS ?_ ?_; rotate_left; (focus (intro w hSw; (try dsimp only at hSw); (have f1 := hs1 w; have f2 := hs2' w); go_simp; first | done | with_reducible rfl)); simp only [Act.put, List.setIfInBounds_toArray, List.set_cons_zero, List.set_cons_succ])
  (refine mv_val 4 (v := ?_) rfl (by kernel_rfl) (by kernel_rfl) (by kernel_rfl) (fun _ _ _ h => h) (by rfl) hS ?_ ?_; rotate_left; (focus (intro w hSw; (try dsimp only at hSw); (have f1 := hs1 w; have f2 := hs2' w); go_simp; first | done | with_reducible rfl)); simp only [Act.put, List.setIfInBounds_toArray, List.set_cons_zero, List.set_cons_succ])
  (refine mv_val 5 (v := ?_) rfl (by kernel_rfl) (by kernel_rfl) (by kernel_rfl) (fun _ _ _ h => h) (by rfl) hS ?_ ?_; rotate_left; (focus (intro w hSw; (try dsimp only at hSw); (have f1 := hs1 w; have f2 := hs2' w); go_simp; first | done | with_reducible rfl)); simp only [Act.put, List.setIfInBounds_toArray, List.set_cons_zero, List.set_cons_succ])
  refine mv_step 6 rfl (by kernel_rfl) (by rfl) (fun K hK => ?_)
  go_simp
  refine hK _ _ ?_ ?_ <;> clear hK K
  · trivial
  try simp only [Act.put, List.setIfInBounds_toArray, List.set_cons_zero, List.set_cons_succ]
  refine mv_step 7 rfl (by kernel_rfl) (by rfl) (fun K hK => ?_)
  go_simp
  refine hK _ _ ?_ ?_ <;> clear hK K
  · trivial
  try simp only [Act.put, List.setIfInBounds_toArray, List.set_cons_zero, List.set_cons_succ]
  (refine mv_val 8 (v := ?_) rfl (by kernel_rfl) (by kernel_rfl) (by kernel_rfl) (fun _ _ _ h => h) (by rfl) hS ?_ ?_; rotate_left; (focus (intro w hSw; (try dsimp only at hSw); (have f1 := hs1 w; have f2 := hs2' w); go_simp; first | done | with_reducible rfl)); simp only [Act.put, List.setIfInBounds_toArray, List.set_cons_zero, List.set_cons_succ])
  refine wpAnyH_done (by kernel_rfl) ?_ _
  obtain ⟨w3, hw3⟩ : ∃ w3, w3 = (w.alloc (.cells #[.slice A' m c'] 22)).drew := ⟨_, rfl⟩
  rw [← hw3]
  have hb3 : Below w.heap.size w w3 := by rw [hw3]; exact ((Below.refl _ _).alloc (Nat.le_refl _) _).drew
  have hz3 : w3.heap.size = w.heap.size + 1 := by rw [hw3]; simp
  have hc3 : w3.cell? ⟨w.heap.size, 0, none⟩ = some (.slice A' m c') := by rw [hw3]; simp [go_sem]
  have NA := fun (w' : World) (h : Below w3.heap.size w3 w') (i : Nat) (hi : i < 8 * m) => null_any B A' c' (b.take m) w.heap.size i w' (hhead.below ((hb3.trans (h.mono hb3.size)).mono hB)) (by rw [hhl]; exact cell_be hc3 h (by show w.heap.size < _; omega)) (by rw [hhl]; exact hi) (by rw [hhl]; omega)
  have NB : ∀ (w' : World), Below w3.heap.size w3 w' → ∀ i, i < 8 * m → Calls Try.prog 22 #[.int .i64 (i : Int), .pointer (some ⟨w.heap.size, 0, none⟩)] w' fun e w'' => e = .returned (.bool (bitAt b i)) ∧ w' = w'' := fun w' h i hi => by
    have := NA w' h i hi
    rwa [bitAt_take hi] at this
  have HNB := Lib.hid NB
  clear NA NB hw3 hc3 hs1 hs2'
  go_wp2_with fail
  go_loopw [10] (fun v10 wr => ∃ i : Nat, n ≤ i ∧ i ≤ 8 * m ∧ v10 = .int .i64 i ∧ (∀ q, n ≤ q → q < i → bitAt b q = false) ∧ w3 = wr) (fun v10 _ => 8 * m - (intOf v10).toNat)
  case atStart => exact ⟨n, Nat.le_refl _, hm8, rfl, fun q h1 h2 => by omega, rfl⟩
  case round =>
    obtain ⟨i, hi1, hi2, rfl, hno, rfl⟩ := hrel
    have HNO := Lib.hid hno
    clear hno
    by_cases hlt : i < 8 * m
    · have hltI : (i : Int) < 8 * (m : Int) := by omega
      have N0 := HNB.out w3 (Below.refl _ _) i hlt
      obtain ⟨bi, hbi⟩ : ∃ x, x = bitAt b i := ⟨_, rfl⟩
      rw [← hbi] at N0
      have HBI := Lib.hid hbi
      clear hbi
      go_wp2_with fail
      refine N0.mono ?_; rintro e w4 ⟨rfl, rfl⟩
      clear N0
      cases bi
      · go_wp2_with fail
        go_roundw
        case rel =>
          refine ⟨i + 1, by omega, by omega, by go_num, fun q h1 h2 => ?_, trivial⟩
          by_cases hq : q = i
          · rw [hq]; exact HBI.out.symm
          · exact HNO.out q h1 (by omega)
        case measure => simp [intOf]; omega
      · have he : rget T b = ([], 21) := by
          rw [HRG.out, if_neg hLm, if_pos ((anyBit_iff _ _ _).2 ⟨i, hi1, hlt, HBI.out.symm⟩)]
        have HE := Lib.hid he
        clear he
        go_wp2_with fail
        go_ret2
        exact retVE_err HE.out hb3
    have hi8 : i = 8 * m := by omega
    have hr2 : rget T b = rvals b 0 T [] rest0 := by
      rw [HRG.out, if_neg hLm, if_neg, HR0.out]
      rw [anyBit_iff]
      rintro ⟨q, h1, h2, h3⟩
      rw [HNO.out q h1 (by omega)] at h3; cases h3
    have HR2 := Lib.hid hr2
    have hgeI : 8 * (m : Int) ≤ (i : Int) := by omega
    clear hi8 hlt hr2 HRG HNO
    have hb03 := hb3
    obtain ⟨by_, hinfo, hby⟩ := Try.infoVal
    obtain ⟨i0, hi, hz0, hz1, hz2⟩ := info_parts hinfo
    obtain ⟨w4, hmk, hown, hg⟩ := run_make_full (P := Try.prog) w3 w3.heap.size 23 37 i0 (.agg #[.int .u8 0, .int .i64 0, .string ByteArray.empty]) 3 Try.underlying23 hi hz0 hz1 .i64 .i64 n (by rw [hz2]; exact Nat.le_trans (Nat.mul_le_mul hby hTl) (by decide)) (by unfold maxLen; omega) (Nat.le_refl _)
    have hmk2 : (Instr.makeSlice 23 (.int .i64 (n : Int)) (.int .i64 (n : Int))).run Try.prog w3 = .ok (.slice (some ⟨w3.heap.size, 0, none⟩) n n) w4 := hmk
    have hown4 : w4.ownsRow w3.heap.size 37 3 (.slice (some ⟨w3.heap.size, 0, none⟩) n n) n (vcells (List.replicate n null)) := by
      have h := hown
      rwa [vcells_rep null n (Value.agg #[.int .u8 0, .int .i64 0, .string ByteArray.empty]).cells rfl] at h
    have hb34 : Below w3.heap.size w3 w4 := (Below.refl _ w3).grown hg (Nat.le_refl _) (by simp)
    clear hmk hown hi hz0 hz1 hz2 hg hinfo
    go_wp2_with fail
    refine (ways_any _).mono ?_; rintro e w5 ⟨rfl, hmap, hb5⟩
    have hown5 := own_bel hown4 hb5
    have hb35 : Below w3.heap.size w3 w5 := hb34.trans (hb5.mono hb34.size)
    obtain ⟨mb, hmb⟩ : ∃ mb, mb = w4.heap.size := ⟨_, rfl⟩
    rw [← hmb] at hmap ⊢
    have hmbw : w3.heap.size ≤ mb := by rw [hmb]; exact hb34.size
    clear hmk2 hb5 hown4 hmb hb34
    rw [hz3] at hown5 hmbw
    have hkn : ∀ (k : Nat) (t : UInt8), T[k]? = some t → t.toNat = 1 ∨ t.toNat = 2 ∨ t.toNat = 3 := fun k t h => by
      have h1 := HKN.out.symm
      unfold knownT at h1
      rw [List.all_eq_true] at h1
      have h2 := h1 t (List.mem_of_getElem? h)
      rcases tyok_cases t with ⟨_, h3⟩ | ⟨h3, _⟩
      · exact h3
      · rw [h3] at h2; cases h2
    have HKT := Lib.hid hkn
    clear hkn
    go_wp2_with fail
    go_loopw [8, 53] (fun v8 v53 wr => ∃ (k : Nat) (acc : List V) (rest : List UInt8) (A0 : Option Addr) (c0 : Nat), k ≤ n ∧ v53 = .int .i64 k ∧ acc.length = k ∧ v8 = .slice A0 rest.length c0 ∧ rest.length ≤ c0 ∧ Rd wr B A0 (cells rest) ∧ rest.length ≤ L ∧ rget T b = rvals b k (T.drop k) acc rest ∧
        wr.ownsRow (w.heap.size + 1) 37 3 (.slice (some ⟨w.heap.size + 1, 0, none⟩) n n) n (vcells (acc ++ List.replicate (n - k) null)) ∧ wr.ownsMap Try.prog 5 wayE mb 3 wtab ∧ Below w3.heap.size w3 wr) (fun _ v53 _ => n - (intOf v53).toNat)
    case atStart =>
      exact ⟨0, [], rest0, A2, c2, by omega, rfl, rfl, rfl, hc2, hrd2.below ((hb3.trans (hb35.mono hb3.size)).mono hB), by rw [HR0.out, List.length_drop, ← HL.out]; omega, HR2.out, hown5, hmap, hb35⟩
    case round =>
      clear hown5 hmap hb35 hrd2 hc2 HR2
      obtain ⟨k, acc, rest, A0, c0, hk, rfl, hacc, rfl, hc0, hrd, hrl, hrv, hown, hmp, hbel⟩ := hrel
      have HRV := Lib.hid hrv
      have HACC := Lib.hid hacc
      clear hrv hacc
      have hb0 : Below w.heap.size w wr := hb3.trans (hbel.mono hb3.size)
      by_cases hlt : k < n
      case neg =>
        have hkn : k = n := by omega
        have hTd : T.drop k = [] := List.drop_eq_nil_of_le (by rw [← HN.out]; omega)
        have he : rget T b = if rest = [] then (acc, 0) else ([], 21) := by rw [HRV.out, hTd]; rfl
        have HE := Lib.hid he
        have hge : ¬ (k : Int) < (n : Int) := by omega
        clear he hTd
        rcases rest with _ | ⟨d, rest⟩
        · have HE2 : Hid (rget T b = (acc, 0)) := Lib.hid (by rw [HE.out, if_pos rfl])
          have hown2 : wr.ownsRow (w.heap.size + 1) 37 3 (.slice (some ⟨w.heap.size + 1, 0, none⟩) n n) acc.length (vcells acc) := by
            have h := hown
            rw [hkn, Nat.sub_self, List.replicate_zero, List.append_nil] at h
            rw [HACC.out, hkn]; exact h
          clear HE
          go_wp2_with fail
          go_ret2
          exact retVE_ok HE2.out (own_lower hown2 (by omega)) hb0
        · have HE2 : Hid (rget T b = ([], 21)) := Lib.hid (by rw [HE.out, if_neg (by simp)])
          have hpos : (0 : Int) < ((d :: rest).length : Int) := by rw [List.length_cons]; omega
          obtain ⟨rl, hrlen⟩ : ∃ rl, rl = (d :: rest).length := ⟨_, rfl⟩
          rw [← hrlen] at hpos ⊢
          clear HE hrlen
          go_wp2_with fail
          go_ret2
          exact retVE_err HE2.out hb0
      obtain ⟨t, ht⟩ : ∃ t, T[k]? = some t := ⟨_, List.getElem?_eq_getElem (by rw [← HN.out]; exact hlt)⟩
      obtain ⟨hbk, ho, rfl, hhb, hc⟩ := rd_cell hT (show k < T.length by rw [← HN.out]; exact hlt)
      have p0 := hc k (by rw [← HN.out]; exact hlt)
      rw [show T[k]'(by rw [← HN.out]; exact hlt) = t by rw [List.getElem?_eq_getElem (by rw [← HN.out]; exact hlt)] at ht; exact Option.some.inj ht] at p0
      have p1 := (hb0.cell (p := ⟨hbk, ho + k, none⟩) (by show hbk < _; omega)).trans p0
      have hkI : (k : Int) < (n : Int) := by omega
      have h123 := HKT.out k t ht
      have hTd : T.drop k = t :: T.drop (k + 1) := by
        rw [List.getElem?_eq_getElem (by rw [← HN.out]; exact hlt)] at ht
        rw [← Option.some.inj ht]; exact List.drop_eq_getElem_cons _
      have HTD := Lib.hid hTd
      have N0 := HNB.out wr hbel k (by omega)
      obtain ⟨bi, hbi⟩ : ∃ x, x = bitAt b k := ⟨_, rfl⟩
      rw [← hbi] at N0
      have HBI := Lib.hid hbi
      clear hbi hTd p0 hc
      go_wp2_with fail
      refine N0.mono ?_; rintro e w6 ⟨rfl, rfl⟩
      clear N0
      cases bi
      case true =>
        have hst : rget T b = rvals b (k + 1) (T.drop (k + 1)) (acc ++ [null]) rest := by
          rw [HRV.out, HTD.out]
          show (if bitAt b k then _ else _) = _
          rw [← HBI.out, if_pos rfl]
        have HST := Lib.hid hst
        clear hst
        go_wp2_with fail
        go_roundw
        case rel =>
          refine ⟨k + 1, acc ++ [null], rest, A0, c0, by omega, by go_num, by simp [HACC.out], rfl, hc0, hrd, hrl, HST.out, ?_, hmp, hbel⟩
          have e : acc ++ [null] ++ List.replicate (n - (k + 1)) null = acc ++ List.replicate (n - k) null := by
            rw [show n - k = (n - (k + 1)) + 1 by omega, List.replicate_succ, List.append_assoc]; rfl
          rw [e]; exact hown
        case measure => simp [intOf]; omega
      have hst : rget T b = if (vread t rest).2.2 ≠ 0 then ([], (vread t rest).2.2) else rvals b (k + 1) (T.drop (k + 1)) (acc ++ [(vread t rest).1]) (rest.drop (vread t rest).2.1) := by
        rw [HRV.out, HTD.out]
        show (if bitAt b k then _ else _) = _
        rw [← HBI.out, if_neg (by simp)]
      have HST := Lib.hid hst
      have hvl := vread_le t rest
      have G0 := fun (w' : World) (h : Rd w' B A0 (cells rest)) (hB' : B ≤ w'.heap.size) => get_any t h123 B A0 c0 rest w' h hc0 hB' (by omega)
      have hsl0 : ∀ u, u ≤ rest.length → _ := fun u hu => from_any (w := wr) (B := B) (A := A0) (l := rest) c0 u hu hc0 hrd
      have hent := get_enters t.toNat h123
      have hat := look_way t.toNat h123
      obtain ⟨f, hf⟩ : ∃ f, f = get_no t.toNat := ⟨_, rfl⟩
      rw [← hf] at G0 hent hat
      generalize vread t rest = x at *
      obtain ⟨v, kk, er⟩ := x
      dsimp only at hvl hst
      have HG := Lib.hid G0
      have HAT := Lib.hid hat
      have HSL := Lib.hid hsl0
      have HST := Lib.hid hst
      have ht256 := t.toNat_lt
      have hs6 := hb0.size
      have hBr : B ≤ wr.heap.size := Nat.le_trans hB hs6
      have hfl := fun w => field_get (put_no t.toNat) f w
      clear G0 hat hf hsl0 hst h123
      go_wp2_with (at_lookup; refine wpList_lookup_tab _ rfl _ _ 41 rfl 5 47 law8 Try.underlying41 wayE (zeroWay _) zway [] rfl mb 3 wtab rfl hmp _ _ rfl (key8N t.toNat (by omega)) (wv (put_no t.toNat) f) (fun vf ps hvf => wayE_inv (hvf.trans (by rw [HAT.out]))) ?_)
      refine (HG.out _ hrd (by omega)).mono ?_; rintro e w6 ⟨rfl, hb6⟩
      have hb06 : Below w.heap.size w w6 := hb0.trans (hb6.mono hs6)
      dsimp only
      by_cases her : er = 0
      case neg =>
        have he : rget T b = ([], er) := by rw [HST.out, if_pos her]
        have HE := Lib.hid he
        have herI : ((er : Int) != 0) = true := by simp; omega
        clear he her
        go_wp2_with fail
        go_ret2
        exact retVE_err HE.out (hb06.alloc hb06.size _)
      have hst2 : rget T b = rvals b (k + 1) (T.drop (k + 1)) (acc ++ [v]) (rest.drop kk) := by rw [HST.out, if_neg (by simpa using her)]
      have HST2 := Lib.hid hst2
      have hkk : kk ≤ rest.length := by
        rcases hvl with h | h | h
        · exact h.1
        · exact absurd her h
        · unfold maxLen at h; omega
      have herI : ((er : Int) != 0) = false := by simp; omega
      obtain ⟨A6, c6, hsl6, hrd6, hc6⟩ := HSL.out kk hkk
      have hsl7 := fun w' => hsl6 w' (kk : Int) rfl
      obtain ⟨w7, hw7⟩ : ∃ w7, w7 = w6.alloc (.cells #[.int .u8 (v.k : Int), .int .i64 v.n, txt v.t] 37) := ⟨_, rfl⟩
      have hown7 : w7.ownsRow (w.heap.size + 1) 37 3 (.slice (some ⟨w.heap.size + 1, 0, none⟩) n n) n (vcells (acc ++ List.replicate (n - k) null)) := by rw [hw7]; exact (own_bel hown hb6).alloc _
      have hmap7 : w7.ownsMap Try.prog 5 wayE mb 3 wtab := by rw [hw7]; exact (map_bel hmp hb6 (lt_of_map hmp)).alloc _
      have hb7 : Below w3.heap.size w3 w7 := by rw [hw7]; exact (hbel.trans (hb6.mono hbel.size)).alloc (by have := hbel.size; have := hb6.size; omega) _
      have hrd7 : Rd w7 B A6 (cells (rest.drop kk)) := by rw [hw7]; exact (hrd6.below (hb6.mono hBr)).alloc (Nat.le_trans hBr hb6.size) _
      have ca := hown7.cellAt (k * 3) (by omega)
      have cb := hown7.cellAt (k * 3 + 1) (by omega)
      have cc := hown7.cellAt (k * 3 + 2) (by omega)
      have hll : (acc ++ List.replicate (n - k) null)[k]? = some null := by
        rw [List.getElem?_append_right (by rw [HACC.out]; omega), HACC.out, Nat.sub_self, List.getElem?_replicate, if_pos (by omega)]
      obtain ⟨e1, e2, e3⟩ := vcells_at _ _ _ hll
      rw [e1] at ca; rw [e2] at cb; rw [e3] at cc
      have fa := hown7.frozenAt (k * 3)
      have fb := hown7.frozenAt (k * 3 + 1)
      have fc := hown7.frozenAt (k * 3 + 2)
      obtain ⟨d0, d1, d2⟩ := cv_block w6 (.int .u8 (v.k : Int)) (.int .i64 v.n) (txt v.t) 37
      rw [← hw7] at d0 d1 d2
      have hz7 : w7.heap.size = w6.heap.size + 1 := by rw [hw7]; simp
      clear hst2 her hvl HST hsl6 e1 e2 e3
      go_wp2_with fail
      rw [← hw7]
      clear hS hw7
      refine ah_start 9 (fun w' => True) rfl (by kernel_rfl) trivial ?_ ; intro hS
      (refine mv_val 0 (v := ?_) rfl (by kernel_rfl) (by kernel_rfl) (by kernel_rfl) (fun _ _ _ h => h) (by rfl) hS ?_ ?_; rotate_left; (focus (intro w hSw; (try dsimp only at hSw); (have f1 := hsl7 w; have f2 := hlt; have f3 := hkI); go_simp; first | done | with_reducible rfl)); simp only [Act.put, List.setIfInBounds_toArray, List.set_cons_zero, List.set_cons_succ])
      (refine mv_val 1 (v := ?_) rfl (by kernel_rfl) (by kernel_rfl) (by kernel_rfl) (fun _ _ _ h => h) (by rfl) hS ?_ ?_; rotate_left; (focus (intro w hSw; (try dsimp only at hSw); (have f1 := hsl7 w; have f2 := hlt; have f3 := hkI); go_simp; first | done | with_reducible rfl)); simp only [Act.put, List.setIfInBounds_toArray, List.set_cons_zero, List.set_cons_succ])
      (refine mv_val 3 (v := ?_) rfl (by kernel_rfl) (by kernel_rfl) (by kernel_rfl) (fun _ _ _ h => h) (by rfl) hS ?_ ?_; rotate_left; (focus (intro w hSw; (try dsimp only at hSw); (have f1 := hsl7 w; have f2 := hlt; have f3 := hkI); go_simp; first | done | with_reducible rfl)); simp only [Act.put, List.setIfInBounds_toArray, List.set_cons_zero, List.set_cons_succ])
      (refine mv_val 4 (v := ?_) rfl (by kernel_rfl) (by kernel_rfl) (by kernel_rfl) (fun _ _ _ h => h) (by rfl) hS ?_ ?_; rotate_left; (focus (intro w hSw; (try dsimp only at hSw); (have f1 := hsl7 w; have f2 := hlt; have f3 := hkI); go_simp; first | done | with_reducible rfl)); simp only [Act.put, List.setIfInBounds_toArray, List.set_cons_zero, List.set_cons_succ])
      (refine mv_val 5 (v := ?_) rfl (by kernel_rfl) (by kernel_rfl) (by kernel_rfl) (fun _ _ _ h => h) (by rfl) hS ?_ ?_; rotate_left; (focus (intro w hSw; (try dsimp only at hSw); (have f1 := hsl7 w; have f2 := hlt; have f3 := hkI); go_simp; first | done | with_reducible rfl)); simp only [Act.put, List.setIfInBounds_toArray, List.set_cons_zero, List.set_cons_succ])
      refine mv_step 2 rfl (by kernel_rfl) (by rfl) (fun K hK => ?_)
      go_simp
      refine hK _ _ ?_ ?_ <;> clear hK K
      · trivial
      try simp only [Act.put, List.setIfInBounds_toArray, List.set_cons_zero, List.set_cons_succ]
      (refine mv_val 6 (v := ?_) rfl (by kernel_rfl) (by kernel_rfl) (by kernel_rfl) (fun _ _ _ h => h) (by rfl) hS ?_ ?_; rotate_left; (focus (intro w hSw; (try dsimp only at hSw); (have f1 := hsl7 w; have f2 := hlt; have f3 := hkI); go_simp; first | done | with_reducible rfl)); simp only [Act.put, List.setIfInBounds_toArray, List.set_cons_zero, List.set_cons_succ])
      refine mv_step 7 rfl (by kernel_rfl) (by rfl) (fun K hK => ?_)
      go_simp
      refine hK _ _ ?_ ?_ <;> clear hK K
      · trivial
      try simp only [Act.put, List.setIfInBounds_toArray, List.set_cons_zero, List.set_cons_succ]
      (refine mv_val 8 (v := ?_) rfl (by kernel_rfl) (by kernel_rfl) (by kernel_rfl) (fun _ _ _ h => h) (by rfl) hS ?_ ?_; rotate_left; (focus (intro w hSw; (try dsimp only at hSw); (have f1 := hsl7 w; have f2 := hlt; have f3 := hkI); go_simp; first | done | with_reducible rfl)); simp only [Act.put, List.setIfInBounds_toArray, List.set_cons_zero, List.set_cons_succ])
      refine wpAnyH_done (by kernel_rfl) ?_ _
      go_wp2_with fail
      go_roundw
      case rel =>
        refine ⟨k + 1, acc ++ [v], rest.drop kk, A6, c6, by omega, by go_num, by simp [HACC.out], by rw [List.length_drop], hc6, ?_, by rw [List.length_drop]; omega, HST2.out, ?_, ?_, ?_⟩
        · exact hrd7.below ((((Below.refl B w7).setCell (p := ⟨w.heap.size + 1, k * 3, none⟩) (by show _ ≤ w.heap.size + 1; omega) _).setCell (p := ⟨w.heap.size + 1, k * 3 + 1, none⟩) (by show _ ≤ w.heap.size + 1; omega) _).setCell (p := ⟨w.heap.size + 1, k * 3 + 2, none⟩) (by show _ ≤ w.heap.size + 1; omega) _).drew
        · have h := own_set3 (l := acc ++ List.replicate (n - k) null) (i := k) hown7 v (by rw [List.length_append, List.length_replicate, HACC.out]; omega)
          have e : (acc ++ List.replicate (n - k) null).set k v = acc ++ [v] ++ List.replicate (n - (k + 1)) null := by
            rw [List.set_append_right _ _ (by rw [HACC.out]; omega), HACC.out, Nat.sub_self, show n - k = (n - (k + 1)) + 1 by omega, List.replicate_succ, List.append_assoc]; rfl
          rw [e] at h
          exact h
        · have hnm := own_ne_map hown7 hmap7
          exact ((hmap7.setCell (a := ⟨w.heap.size + 1, k * 3, none⟩) (fun e => hnm (by simp [Value.ownBlock, e])) _).setCell (a := ⟨w.heap.size + 1, k * 3 + 1, none⟩) (fun e => hnm (by simp [Value.ownBlock, e])) _).setCell (a := ⟨w.heap.size + 1, k * 3 + 2, none⟩) (fun e => hnm (by simp [Value.ownBlock, e])) _
        · exact (((hb7.setCell (p := ⟨w.heap.size + 1, k * 3, none⟩) (by show _ ≤ w.heap.size + 1; omega) _).setCell (p := ⟨w.heap.size + 1, k * 3 + 1, none⟩) (by show _ ≤ w.heap.size + 1; omega) _).setCell (p := ⟨w.heap.size + 1, k * 3 + 2, none⟩) (by show _ ≤ w.heap.size + 1; omega) _).drew
      case measure => simp [intOf]; omega
end Go.Proofs.Ytfnbckgpldkgmaa

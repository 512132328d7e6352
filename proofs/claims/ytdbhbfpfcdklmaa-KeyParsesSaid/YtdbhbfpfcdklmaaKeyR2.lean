/- The reference's high, One, Append (layer 3), walked: they answer be, kone, kapp. For bytes of at most 2^32 in all. -/
import Derived.Test.YtdbhbfpfcdklmaaKeyR1
import Derived.Laws.OwnMore
namespace Go.Proofs.Ytdbhbfpfcdklmaa
open Go.RowKit
set_option linter.unusedVariables false
set_option linter.unusedSimpArgs false

theorem be_len : ∀ k u, (be k u).length = k
  | 0, u => rfl
  | k + 1, u => by simp [be, be_len k u]
theorem set_mid (m : Nat) (hm : m ≤ 7) (t : List Value) (a b : Value) : ((List.replicate (7 - m + 1) a) ++ t).set (7 - m) b = List.replicate (7 - m) a ++ b :: t := by
  rw [List.replicate_succ', List.append_assoc, List.set_append_right _ _ (by simp)]
  simp

set_option maxHeartbeats 1000000 in
set_option maxRecDepth 100000 in
theorem high_any (u : Nat) (hu : u < 18446744073709551616) (w : World) : Calls Try.prog 25 #[.int .u64 (u : Int)] w (RetB w (be 8 u)) := by
  obtain ⟨i0, hi, hz0, hz1, hz2⟩ := info_parts Try.infoU8
  obtain ⟨w1, hmk, hown, hg⟩ := run_make_full (P := Try.prog) w w.heap.size 22 5 i0 (.int .u8 0) 1 Try.underlying22 hi hz0 hz1 .i64 .i64 8 (by rw [hz2]; omega) (by unfold maxLen; omega) (Nat.le_refl _)
  have hmk2 : (Instr.makeSlice 22 (.int .i64 8) (.int .i64 8)).run Try.prog w = .ok (.slice (some ⟨w.heap.size, 0, none⟩) 8 8) w1 := hmk
  have hown1 : w1.ownsRow w.heap.size 5 1 (.slice (some ⟨w.heap.size, 0, none⟩) 8 8) 8 (List.replicate 8 (.int .u8 0)) := by
    have h := hown
    rwa [show (Value.int .u8 0).cells = #[.int .u8 0] from rfl, toList_madeCells_one] at h
  have hb1 : Below w.heap.size w w1 := (Below.refl _ w).grown hg (Nat.le_refl _) (by simp)
  clear hmk hown hi hz0 hz1 hz2
  go_enter Try.func25, Try.ntmps25
  go_wp2
  clear hmk2
  go_loopw [0, 4] (fun v0 v4 wr => ∃ m : Nat, m ≤ 8 ∧ v0 = .int .u64 ((u / 256 ^ m : Nat) : Int) ∧ v4 = .int .i64 (7 - (m : Int)) ∧ wr.ownsRow w.heap.size 5 1 (.slice (some ⟨w.heap.size, 0, none⟩) 8 8) 8 (List.replicate (8 - m) (.int .u8 0) ++ cells (be m u)) ∧ Below w.heap.size w wr) (fun _ v4 _ => (intOf v4 + 1).toNat)
  case atStart => exact ⟨0, by omega, by simp, rfl, hown1, hb1⟩
  case round =>
    obtain ⟨m, hm, rfl, rfl, hown, hbel⟩ := hrel
    by_cases h8 : m < 8
    · obtain ⟨x, hx⟩ : ∃ x, x = u / 256 ^ m := ⟨_, rfl⟩
      have hxb : x < 18446744073709551616 := by rw [hx]; exact Nat.lt_of_le_of_lt (Nat.div_le_self _ _) hu
      rw [← hx]
      have hbe : be (m + 1) u = (x % 256).toUInt8 :: be m u := by rw [hx]; rfl
      have hxs : u / 256 ^ (m + 1) = x / 256 := by rw [hx, Nat.pow_succ, Nat.div_div_eq_div_mul]
      have HBE := Lib.hid hbe
      have HXS := Lib.hid hxs
      clear hbe hxs hx
      obtain ⟨j, hj⟩ : ∃ j, j = 7 - m := ⟨_, rfl⟩
      have hjI : (7 : Int) - (m : Int) = (j : Int) := by omega
      have h7 : 8 - m = 7 - m + 1 := by omega
      rw [h7] at hown
      have hset := hown.stored (7 - m) (.int .u8 ((x % 256 : Nat) : Int))
      rw [set_mid m (by omega)] at hset
      have hc : wr.cell? ⟨w.heap.size, j, none⟩ = some (.int .u8 0) := by
        rw [hj, hown.cellAt (7 - m) (by omega), List.getElem?_append_left (by simp)]
        simp
      have hz : wr.frozen? ⟨w.heap.size, j, none⟩ = false := hown.frozenAt j
      have hj8 : j < 8 := by omega
      rw [hjI]
      have HJ := Lib.hid hj
      have HS := Lib.hid hset
      clear hj hjI hset h7
      have hmod : IntKind.u8.wrap ((x : Int) % 256) = ((x % 256 : Nat) : Int) := by rw [IntKind.wrap_u8]; omega
      have hj0 : (0 : Int) ≤ (j : Int) := by omega
      go_wp2_with fail
      go_roundw
      case rel =>
        obtain ⟨h1, h2⟩ := HS.out
        rw [← HJ.out] at h1 h2
        refine ⟨m + 1, by omega, by rw [HXS.out]; simp, ?_, ?_, ?_⟩
        · rw [show ((j : Int) - 1) = 7 - ((m + 1 : Nat) : Int) by have := HJ.out; omega]
        · rw [show 8 - (m + 1) = 7 - m by omega, HBE.out, ← HJ.out]
          have e : b8 ((x % 256).toUInt8) = Value.int .u8 ((x : Int) % 256) := by
            unfold b8
            rw [toNat_toUInt8 (Nat.mod_lt _ (by omega))]
            simp
          simp only [cells, List.map_cons, e]
          simpa [cells] using h1
        · exact hbel.setCell (p := ⟨w.heap.size, j, none⟩) (Nat.le_refl _) _
      case measure => simp [intOf] <;> omega
    · have hm8 : m = 8 := by omega
      subst hm8
      go_wp2_with fail
      go_ret
      refine retB_of (l := be 8 u) ?_ hbel
      rw [be_len]
      simpa using hown

theorem own_box (w : World) (o : Obj) (x : Value) : ((w.alloc o).alloc (.cells #[x] 5)).ownsRow w.heap.size 5 1 (.slice (some ⟨w.heap.size + 1, 0, none⟩) 1 1) 1 [x] := by
  have h := World.ownsRow_lit (base := w.heap.size) (e := 5) (size := 1) (w.alloc o) #[x] 1 (by simp) (by unfold maxLen; omega) rfl
  rw [World.size_alloc] at h
  exact h
set_option maxHeartbeats 4000000 in
set_option maxRecDepth 100000 in
theorem One_any (v : V) (hm : mayB v = true) (hk : v.k < 256) (hn : i64r v.n) (hl : (kone v).length ≤ 4294967296) (w : World) : Calls Try.prog 21 #[va v] w (RetB w (kone v)) := by
  obtain ⟨k, n, t⟩ := v
  rw [mayB_cases] at hm
  dsimp only at hm hk hn
  rcases (by omega : k = 0 ∨ k = 1 ∨ k = 2 ∨ k = 3 ∨ 3 < k) with rfl | rfl | rfl | rfl | h3
  · have hk1 : kone ⟨0, n, t⟩ = [1] := rfl
    rw [hk1]
    clear hm
    go_enter Try.func21, Try.ntmps21
    go_wp2
    have hown1 := own_box w (.cells #[.int .u8 0, .int .i64 n, txt t] 39) (.int .u8 1)
    go_ret
    exact retB_of (l := [1]) hown1 (by go_grown)
  · have hn : n = 0 ∨ n = 1 := by
      simp at hm
      exact hm.1
    have hown1 := own_box w (.cells #[.int .u8 1, .int .i64 n, txt t] 39) (.int .u8 2)
    have hb1 : Below w.heap.size w ((w.alloc (.cells #[.int .u8 1, .int .i64 n, txt t] 39)).alloc (.cells #[.int .u8 2] 5)) := by go_grown
    rcases hn with rfl | rfl
    · have hk1 : kone ⟨1, 0, t⟩ = [2, 0] := rfl
      rw [hk1]
      clear hm
      go_enter Try.func21, Try.ntmps21
      go_wp2_with (at_builtin; go_loud (refine wpList_app El_u8 rfl _ _ rfl (hown1.alloc _) rfl rfl (by exact rd_one _ _ _ _ _ (by simp) (Nat.lt_add_one _)) rfl one_int (by unfold maxLen; omega) (by omega) (by simp; omega) ?_; intro v2 w2 hown2 hg2 _))
      go_ret
      exact retB_of (l := [2, 0]) hown2 ((hb1.alloc (by simp; omega) _).trans (own_below (hown1.alloc _) hg2 (by simp; omega)))
    · have hk1 : kone ⟨1, 1, t⟩ = [2, 1] := rfl
      rw [hk1]
      clear hm
      go_enter Try.func21, Try.ntmps21
      go_wp2_with (at_builtin; go_loud (refine wpList_app El_u8 rfl _ _ rfl (hown1.alloc _) rfl rfl (by exact rd_one _ _ _ _ _ (by simp) (Nat.lt_add_one _)) rfl one_int (by unfold maxLen; omega) (by omega) (by simp; omega) ?_; intro v2 w2 hown2 hg2 _))
      go_ret
      exact retB_of (l := [2, 1]) hown2 ((hb1.alloc (by simp; omega) _).trans (own_below (hown1.alloc _) hg2 (by simp; omega)))
  · have hk1 : kone ⟨2, n, t⟩ = 3 :: be 8 (n + 9223372036854775808).toNat := rfl
    rw [hk1]
    unfold i64r at hn
    obtain ⟨u, hu⟩ : ∃ u, u = (n + 9223372036854775808).toNat := ⟨_, rfl⟩
    have hwr : IntKind.u64.wrap (IntKind.u64.wrap n + 9223372036854775808) = (u : Int) := by rw [IntKind.wrap_u64, IntKind.wrap_u64, hu]; omega
    have hub : u < 18446744073709551616 := by omega
    rw [← hu]
    have hown1 := own_box w (.cells #[.int .u8 2, .int .i64 n, txt t] 39) (.int .u8 3)
    have hb1 : Below w.heap.size w ((w.alloc (.cells #[.int .u8 2, .int .i64 n, txt t] 39)).alloc (.cells #[.int .u8 3] 5)) := by go_grown
    have K1 := Lib.hid (fun w => high_any u hub w)
    have hbl := be_len 8 u
    obtain ⟨x, hx⟩ : ∃ x, x = be 8 u := ⟨_, rfl⟩
    rw [← hx] at K1 hbl
    rw [← hx]
    clear hm hu hx
    go_enter Try.func21, Try.ntmps21
    go_wp2_with fail
    refine (K1.out _).mono ?_; rintro e w2 ⟨A2, c2, rfl, hown2, hb2⟩
    have hown3 := own_bel hown1 hb2
    have hrd2 := rd_own hown2
    have hb3 := hb1.trans (hb2.mono (by simp; omega))
    rw [hbl] at hown2 ⊢
    go_wp2_with (at_builtin; refine wpList_app El_u8 rfl _ _ rfl hown3 rfl rfl hrd2 (by simp [hbl]) (cells_one _) (by unfold maxLen; omega) (by omega) (by have := hb3.size; simp; omega) ?_; intro v4 w4 hown4 hg4 _)
    go_ret
    refine retB_of (l := 3 :: x) ?_ (hb3.trans (own_below hown3 hg4 (by have := hb3.size; omega)))
    rw [List.length_cons, hbl]
    exact hown4
  · have hk1 : kone ⟨3, n, t⟩ = 4 :: (esc t ++ [0, 1]) := rfl
    have hn0 : n = 0 := by simpa using hm
    subst hn0
    rw [hk1] at hl ⊢
    simp only [List.length_cons, List.length_append, List.length_nil] at hl
    have hown1 := own_box w (.cells #[.int .u8 3, .int .i64 0, txt t] 39) (.int .u8 4)
    have hb1 : Below w.heap.size w ((w.alloc (.cells #[.int .u8 3, .int .i64 0, txt t] 39)).alloc (.cells #[.int .u8 4] 5)) := by go_grown
    have hc1 : ((w.alloc (.cells #[.int .u8 3, .int .i64 0, txt t] 39)).alloc (.cells #[.int .u8 4] 5)).cell? ⟨w.heap.size, 2, none⟩ = some (txt t) := by simp [go_sem, World.cell?_alloc_past]
    have htl := esc_le t
    clear hm hk1 hk hn
    go_enter Try.func21, Try.ntmps21
    go_wp2
    go_loopw [3, 4] (fun v3 v4 ws => ∃ (j : Nat) (d : List UInt8), j ≤ t.length ∧ v4 = .int .i64 j ∧ d = esc (t.take j) ∧ d.length ≤ (esc t).length ∧ ws.ownsRow w.heap.size 5 1 v3 (1 + d.length) (cells (4 :: d)) ∧ v3.ownBlock ≠ some w.heap.size ∧
            ws.cell? ⟨w.heap.size, 2, none⟩ = some (txt t) ∧ w.heap.size < ws.heap.size ∧ Below w.heap.size w ws) (fun _ v4 _ => t.length - (intOf v4).toNat)
    case atStart => exact ⟨0, [], by omega, rfl, rfl, by simp, hown1, by simp [Value.ownBlock], hc1, by simp; omega, hb1⟩
    case round =>
      obtain ⟨j, d, hj, rfl, hd, hdl, hownj, hnbj, hcj, hwj, hbj⟩ := hrel
      obtain ⟨A7, c7, rfl, hc7⟩ := own_form hownj
      have HD := Lib.hid hd
      clear hd
      by_cases hjt : j < t.length
      · obtain ⟨x, hx⟩ : ∃ x, t[j]? = some x := ⟨_, List.getElem?_eq_getElem hjt⟩
        have hst : esc (t.take (j + 1)) = d ++ (if x = 0 then [0, 255] else [x]) := by
          rw [List.take_add_one, hx, esc_append, HD.out]
          simp only [Option.toList_some, esc]
        have hle2 := esc_take_le t (j + 1)
        rw [hst, List.length_append] at hle2
        have HST := Lib.hid hst
        have hjI : (j : Int) < (t.length : Int) := by omega
        have hix : ∀ h, ((⟨t.toArray⟩ : ByteArray)[j]'h) = x := fun h => by
          have h2 := (List.getElem?_eq_some_iff.1 hx).2
          show (t.toArray)[j]'h = x
          simpa using h2
        clear hst hx
        by_cases hx0 : x = 0
        · subst hx0
          rw [if_pos rfl] at hle2
          simp only [List.length_cons, List.length_nil] at hle2
          go_wp2_with (first
            | (at_builtin; refine wpList_app El_u8 rfl _ _ rfl (hown5.alloc _) rfl rfl (by exact rd_one _ _ _ _ _ rfl (Nat.lt_add_one _)) rfl one_int (by unfold maxLen; omega) (by omega) (by have := hb5.size; simp; omega) ?_; intro v8 w8 hown8 hg8 ho8)
            | (at_builtin; refine wpList_app El_u8 rfl _ _ rfl (hownj.alloc _) rfl rfl (by exact rd_one _ _ _ _ _ rfl (Nat.lt_add_one _)) rfl one_int (by unfold maxLen; omega) (by omega) (by have := hbj.size; simp; omega) ?_; intro v4 w5 hown5 hg5 ho5; have hb5 : Below w.heap.size w w5 := (hbj.alloc hbj.size _).trans (own_below (hownj.alloc _) hg5 (by have := hbj.size; simp; omega)); have hz5 := hg5.size; simp only [World.size_alloc] at hz5; have hnb5 := nb_app ho5 hnbj (by simp; omega); have hcj5 := app_cell hg5 hnbj (cell_al hcj hwj _); obtain ⟨A8, c8, rfl, hc8⟩ := own_form hown5))
          have hb8 : Below w.heap.size w w8 := (hb5.alloc hb5.size _).trans (own_below (hown5.alloc _) hg8 (by have := hb5.size; simp; omega))
          have hz8 := hg8.size
          simp only [World.size_alloc] at hz8
          have hw5 : w.heap.size < w5.heap.size := by omega
          go_roundw
          case rel =>
            refine ⟨j + 1, d ++ [0, 255], by omega, by go_num, by rw [HST.out, if_pos rfl], by simp; omega, ?_, nb_app ho8 hnb5 (by simp; omega), app_cell hg8 hnb5 (cell_al hcj5 hw5 _), by omega, hb8⟩
            have e : (4 :: (d ++ [0, 255]) : List UInt8) = (4 :: d) ++ [0, 255] := by simp
            have e2 : 1 + (d ++ [0, 255]).length = 1 + d.length + 1 + 1 := by simp; omega
            rw [e, e2, cells_append]
            simpa [cells, b8] using hown8
          case measure => simp [intOf]; omega
        · rw [if_neg hx0] at hle2
          simp only [List.length_cons, List.length_nil] at hle2
          have hxn : ((x.toNat : Int) == 0) = false := by
            simp only [beq_eq_false_iff_ne, ne_eq]
            intro e
            exact hx0 (UInt8.toNat_inj.1 (by show x.toNat = 0; omega))
          go_wp2_with (at_builtin; refine wpList_app El_u8 rfl _ _ rfl (hownj.alloc _) rfl rfl (by exact rd_one _ _ _ _ _ rfl (Nat.lt_add_one _)) rfl one_int (by unfold maxLen; omega) (by omega) (by have := hbj.size; simp; omega) ?_; intro v4 w5 hown5 hg5 ho5; have hcj5 := app_cell hg5 hnbj (cell_al hcj hwj _))
          have hb5 : Below w.heap.size w w5 := (hbj.alloc hbj.size _).trans (own_below (hownj.alloc _) hg5 (by have := hbj.size; simp; omega))
          have hz5 := hg5.size
          simp only [World.size_alloc] at hz5
          go_roundw
          case rel =>
            refine ⟨j + 1, d ++ [x], by omega, by go_num, by rw [HST.out, if_neg hx0], by simp; omega, ?_, nb_app ho5 hnbj (by simp; omega), hcj5, by omega, hb5⟩
            have e : (4 :: (d ++ [x]) : List UInt8) = (4 :: d) ++ [x] := by simp
            rw [e, cells_append, List.length_append, List.length_singleton, ← Nat.add_assoc]
            exact hown5
          case measure => simp [intOf]; omega
      · have hjt' : j = t.length := by omega
        have hde : d = esc t := by rw [HD.out, hjt', List.take_length]
        have HDE := Lib.hid hde
        subst hjt'
        clear hde HD
        go_wp2_with (at_builtin; refine wpList_app El_u8 rfl _ _ rfl (hownj.alloc _) rfl rfl (by exact rd_two _ _ _ _ _ _ rfl (Nat.lt_add_one _)) rfl (by intro u hu; simp at hu; rcases hu with rfl | rfl <;> rfl) (by unfold maxLen; omega) (by omega) (by have := hbj.size; simp; omega) ?_; intro v4 w5 hown5 hg5 ho5)
        have hb5 : Below w.heap.size w w5 := (hbj.alloc hbj.size _).trans (own_below (hownj.alloc _) hg5 (by have := hbj.size; simp; omega))
        go_ret
        refine retB_of ?_ hb5
        rw [← HDE.out]
        have e : (4 :: (d ++ [0, 1]) : List UInt8) = (4 :: d) ++ [0, 1] := by simp
        have e2 : ((4 :: d) ++ [0, 1] : List UInt8).length = 1 + d.length + 2 := by simp; omega
        rw [e, e2, cells_append]
        exact hown5
  · exfalso
    rw [if_neg (by omega), if_neg (by omega), if_neg (by omega), if_neg (by omega)] at hm
    cases hm

theorem kapp_len (b : List UInt8) (l : List V) (hl : b.length + (l.flatMap kone).length ≤ 4294967296) {k : Nat} {v : V} (hv : l[k]? = some v) : (kone v).length ≤ 4294967296 := by
  have h1 := flat_take hv
  have h2 := flat_le l (k + 1)
  rw [h1, List.length_append] at h2
  omega

set_option maxHeartbeats 4000000 in
set_option maxRecDepth 100000 in
theorem RAppend_any (B : Nat) (A A' : Option Addr) (c c' : Nat) (b : List UInt8) (l : List V) (w : World) (hb : Rd w B A (cells b)) (hl : Rd w B A' (vcells l)) (hB : B ≤ w.heap.size)
    (hlen : b.length + (l.flatMap kone).length ≤ 4294967296) (hll : l.length ≤ 4294967296) (hok : ∀ v ∈ l, v.k < 256 ∧ i64r v.n) :
    Calls Try.prog 11 #[.slice A b.length c, .slice A' l.length c'] w (RetBE w (kapp b l)) := by
  have hlit := World.ownsRow_lit (base := w.heap.size) (e := 5) (size := 1) w #[] 0 (Nat.le_refl _) (by unfold maxLen; omega) rfl
  go_enter Try.func11, Try.ntmps11
  go_wp2_with (at_builtin; refine wpList_app El_u8 rfl _ _ rfl hlit rfl rfl (hb.alloc hB _) (by simp) (cells_one b) (by unfold maxLen; omega) (by omega) (by simp) ?_; intro v1 w1 hown1 hg1 _)
  have hb1 : Below w.heap.size w w1 := ((Below.refl _ _).alloc (Nat.le_refl _) _).trans (own_below hlit hg1 (by simp))
  rw [Nat.zero_add] at hown1
  go_loopw [6, 7] (fun v6 v7 wr => ∃ (k : Nat) (bs : List UInt8), k ≤ l.length ∧ v7 = .int .i64 k ∧ (∀ v ∈ l.take k, mayB v = true) ∧ bs = b ++ (l.take k).flatMap kone ∧ wr.ownsRow w.heap.size 5 1 v6 bs.length (cells bs) ∧ Below w.heap.size w wr)
    (fun _ v7 _ => l.length - (intOf v7).toNat)
  case atStart => exact ⟨0, b, by omega, rfl, by simp, by simp, by simpa using hown1, hb1⟩
  case round =>
    obtain ⟨k, bs, hk, rfl, hall, hbs, hown, hnx⟩ := hrel
    obtain ⟨A6, c6, rfl, hc6⟩ := own_form hown
    have HALL := Lib.hid hall
    have HBS := Lib.hid hbs
    clear hall hbs
    by_cases hlt : k < l.length
    · obtain ⟨v, hv⟩ : ∃ v, l[k]? = some v := ⟨_, List.getElem?_eq_getElem hlt⟩
      obtain ⟨gb, go, rfl, hgb, q0, q1, q2⟩ := rd_val hl hv
      have F1 : ∀ w', Below w.heap.size w w' → w'.cell? ⟨gb, go + k * 3, none⟩ = some (.int .u8 (v.k : Int)) ∧ w'.cell? ⟨gb, go + k * 3 + 1, none⟩ = some (.int .i64 v.n) ∧ w'.cell? ⟨gb, go + k * 3 + 2, none⟩ = some (txt v.t) := fun w' hb => ⟨(hb.cell (p := ⟨gb, go + k * 3, none⟩) (by show gb < _; omega)).trans q0, (hb.cell (p := ⟨gb, go + k * 3 + 1, none⟩) (by show gb < _; omega)).trans q1, (hb.cell (p := ⟨gb, go + k * 3 + 2, none⟩) (by show gb < _; omega)).trans q2⟩
      obtain ⟨r0, r1, r2⟩ := F1 wr hnx
      have hvo := hok v (List.mem_of_getElem? hv)
      have hfl := flat_take hv
      have hft := flat_le l (k + 1)
      rw [hfl, List.length_append] at hft
      have HFL := Lib.hid hfl
      have hbl : bs.length = b.length + ((l.take k).flatMap kone).length := by rw [HBS.out, List.length_append]
      have hle : bs.length + (kone v).length ≤ 4294967296 := by omega
      have HV := Lib.hid hv
      have hall2 : mayB v = true → ∀ x ∈ l.take (k + 1), mayB x = true := fun hm x hx => by
        rw [List.take_add_one, HV.out] at hx
        rcases List.mem_append.1 hx with h | h
        · exact HALL.out x h
        · simp at h; subst h; exact hm
      have hno : mayB v = false → kapp b l = ([], 1) := fun hm => by
        unfold kapp
        rw [if_neg]
        intro h
        rw [List.all_eq_true] at h
        have := h v (List.mem_of_getElem? HV.out)
        rw [hm] at this; cases this
      have HNO := Lib.hid hno
      have HA2 := Lib.hid hall2
      have O1 := fun hm w => One_any v hm hvo.1 hvo.2 (by omega) w
      have M0 := fun w => May_any v hvo.1 w
      obtain ⟨mb, hmb⟩ : ∃ x, x = mayB v := ⟨_, rfl⟩
      rw [← hmb] at M0 O1
      have HMB := Lib.hid hmb
      have HM := Lib.hid M0
      have HO := Lib.hid O1
      have HVO := Lib.hid hvo
      have HF1 := Lib.hid F1
      obtain ⟨ko, hko⟩ : ∃ x, x = kone v := ⟨_, rfl⟩
      rw [← hko] at hle
      have HKO := Lib.hid hko
      clear hno hall2 M0 O1 hvo hmb hv hfl q0 q1 q2 hft hko F1 hbl
      go_wp2_with fail
      refine (HM.out _).mono ?_; rintro e w2 ⟨rfl, bl2⟩
      have b2 : Below w.heap.size w w2 := hnx.trans (bl2.mono hnx.size)
      have hown2 := own_bel hown bl2
      rcases mb with _ | _
      · have he := HNO.out HMB.out.symm
        have HE := Lib.hid he
        clear he
        go_wp2_with fail
        go_ret2
        exact retBE_err HE.out b2
      · obtain ⟨s0, s1, s2⟩ := HF1.out w2 b2
        have HALL3 := Lib.hid (HA2.out HMB.out.symm)
        go_wp2_with fail
        refine (HO.out trivial _).mono ?_; rintro e w3 ⟨A9, c9, rfl, hown9, bl3⟩
        have b3 : Below w.heap.size w w3 := b2.trans (bl3.mono b2.size)
        have hown3 := own_bel hown2 bl3
        have hrd9 := rd_own hown9
        rw [← HKO.out] at hrd9 hown9 ⊢
        go_wp2_with (at_builtin; refine wpList_app El_u8 rfl _ _ rfl hown3 rfl rfl hrd9 (by simp) (cells_one _) (by unfold maxLen; omega) (by omega) b3.size ?_; intro v4 w4 hown4 hg4 _)
        have b4 := b3.trans (own_below hown3 hg4 b3.size)
        go_roundw
        case rel =>
          refine ⟨k + 1, bs ++ ko, by omega, by go_num, HALL3.out, by rw [HFL.out, HBS.out, List.append_assoc, HKO.out], ?_, b4⟩
          rw [cells_append, List.length_append]; exact hown4
        case measure => simp [intOf]; omega
    · have hkk : k = l.length := by omega
      have he : kapp b l = (bs, 0) := by
        unfold kapp
        have h1 := HALL.out
        rw [hkk, List.take_length] at h1
        rw [if_pos (List.all_eq_true.2 h1), HBS.out, hkk, List.take_length]
      have HE := Lib.hid he
      subst hkk
      clear he
      go_wp2_with fail
      go_ret2
      exact retBE_ok HE.out hown hnx
end Go.Proofs.Ytdbhbfpfcdklmaa

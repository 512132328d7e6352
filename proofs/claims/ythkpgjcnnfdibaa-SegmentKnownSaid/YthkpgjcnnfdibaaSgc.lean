/- Joined texts: see the remark ahead of each part. No condition but those that the parts name. -/
import Derived.Test.YthkpgjcnnfdibaaSgb
/-! The walk of segment.Make (layer 7): it answers segMake. No condition but sizes. -/
namespace Go.Proofs.Ythkpgjcnnfdibaa
open Go.RowKit Go.Maps
set_option linter.unusedVariables false
set_option linter.unusedSimpArgs false

/-- What a call that answers pieces and an error leaves. -/
def RetBBE (w : World) (r : List (List UInt8) × Nat) (e : Ending) (w' : World) : Prop :=
  ∃ A c, e = .returned (.tuple #[.slice A r.1.length c, .int .i64 (r.2 : Int)]) ∧ OwnBB w' w.heap.size (.slice A r.1.length c) r.1 ∧ Below w.heap.size w w'
theorem retBBE_err {w w' : World} {r : List (List UInt8) × Nat} {x : Nat} (h : r = ([], x)) (hb : Below w.heap.size w w') : RetBBE w r (.returned (.tuple #[.slice none 0 0, .int .i64 (x : Int)])) w' := by
  subst h
  exact ⟨none, 0, rfl, OwnN.nil _ _, hb⟩
theorem make_vals (w : World) (n : Nat) (hn : n ≤ 1000000) : ∃ w1, (Instr.makeSlice 37 (.int .i64 (n : Int)) (.int .i64 (n : Int))).run Try.prog w = .ok (.slice (some ⟨w.heap.size, 0, none⟩) n n) w1 ∧
    w1.ownsRow w.heap.size 46 3 (.slice (some ⟨w.heap.size, 0, none⟩) n n) n (vcells (List.replicate n null)) ∧ Below w.heap.size w w1 := by
  obtain ⟨by_, hinfo, hby⟩ := Try.infoVal
  obtain ⟨i0, hi, hz0, hz1, hz2⟩ := info_parts hinfo
  obtain ⟨w1, hmk, hown, hg⟩ := run_make_full (P := Try.prog) w w.heap.size 37 46 i0 (.agg #[.int .u8 0, .int .i64 0, .string ByteArray.empty]) 3 Try.underlying37 hi hz0 hz1 .i64 .i64 n (by rw [hz2]; exact Nat.le_trans (Nat.mul_le_mul hby hn) (by decide)) (by unfold maxLen; omega) (Nat.le_refl _)
  rw [vcells_rep null n (Value.agg #[.int .u8 0, .int .i64 0, .string ByteArray.empty]).cells rfl] at hown
  exact ⟨w1, hmk, hown, (Below.refl _ w).grown hg (Nat.le_refl _) (by simp)⟩
/-- 'b[u:v:v]' of bytes that are read -/
theorem mid3_any {w : World} {B : Nat} {A : Option Addr} {l : List UInt8} (c u v : Nat) (huv : u ≤ v) (hv : v ≤ l.length) (hc : l.length ≤ c) (hr : Rd w B A (cells l)) :
    ∃ A' c', (∀ w' (y z : Int), y = u → z = v → (Instr.sliceAt 22 (.slice A l.length c) (some (.int .i64 y)) (some (.int .i64 z)) (some (.int .i64 z))).run Try.prog w' = .ok (.slice A' ((l.drop u).take (v - u)).length c') w') ∧ Rd w B A' (cells ((l.drop u).take (v - u))) ∧ ((l.drop u).take (v - u)).length ≤ c' := by
  obtain ⟨i0, hi, hz0, hz1, hz2⟩ := info_parts Try.infoU8
  have hlen : ((l.drop u).take (v - u)).length = v - u := by rw [List.length_take, List.length_drop]; omega
  refine ⟨if v = u then A else A.map (·.add u), v - u, fun w' y z hy hz => ?_, ?_, by rw [hlen]; omega⟩
  · subst hy hz
    rw [hlen]
    simp [Instr.sliceAt, Instr.slice, run_underlying Try.underlying22, Instr.sliceBounds, run_sliceBound, sizeOf, typeInfo, hi, hz1, (by omega : (0 : Int) ≤ (u : Int)), (by omega : (0 : Int) ≤ (v : Int)), (by omega : (u : Int) ≤ (v : Int)), (by omega : (v : Int) ≤ (c : Int)), (by omega : (u : Int) ≤ (c : Int))]
  · by_cases h : v = u
    · subst h
      exact .inl (by simp)
    · rw [if_neg h]
      have h1 := (hr.cut u False (fun e => e.elim)).take (v - u)
      rw [if_neg (fun e => e)] at h1
      unfold cells at *
      rw [List.map_take, List.map_drop]; exact h1
theorem own_ptr {w : World} {base n sz : Nat} {e : TypeId} {v : Value} {xs : List Value} (h : w.ownsRow base e sz v n xs) (hn : 0 < n) : ∃ g cap, v = .slice (some ⟨g, 0, none⟩) n cap ∧ base ≤ g ∧ g < w.heap.size := by
  rcases h.2 with ⟨_, hz⟩ | ⟨g, cap, cur, hv, hb, hh, _⟩
  · omega
  · exact ⟨g, cap, hv, hb, (Array.getElem?_eq_some_iff.1 hh).1⟩
theorem many_lt {n i : Nat} : 1000 * i < n ↔ i < many n := by unfold many; omega

set_option maxHeartbeats 8000000 in
set_option maxRecDepth 100000 in
theorem smake_any (B : Nat) (A A' : Option Addr) (c c' : Nat) (T : List UInt8) (rows : List (List V)) (w : World) (hT : Rd w B A (cells T)) (hr : RdVV w B A' rows) (hB : B ≤ w.heap.size) (hTl : T.length ≤ 1000) (hl : rows.length ≤ 1000000)
    (hok : ∀ r ∈ rows, r.length ≤ 1000000 ∧ (∀ v ∈ r, vsm v) ∧ (rbytes r).length ≤ 4294967296)
    (hsz : knownT T = true → rowsOk T rows = true → rows.length ≤ 65536 → (segBytes T rows.length (colsOf T.length rows)).length ≤ 3900000000) :
    Calls Try.prog 11 #[.slice A T.length c, .slice A' rows.length c'] w (RetBBE w (segMake T rows)) := by
  have HOK := Lib.hid hok
  have HSZ := Lib.hid hsz
  have HRT := Lib.hid (fun (w' : World) (h : Below w.heap.size w w') => (hT.below (h.mono hB)).more (B' := w'.heap.size) (by have := h.size; omega))
  have HRR := Lib.hid (fun (w' : World) (h : Below w.heap.size w w') => (hr.below (h.mono hB)).more (B' := w'.heap.size) (by have := h.size; omega))
  have HP := Lib.hid (fun (w' : World) (l : List V) (A3 : Option Addr) (c3 : Nat) (h : Below w.heap.size w w') (hl : Rd w' w'.heap.size A3 (vcells l)) (hv : ∀ v ∈ l, vsm v) (hll : l.length ≤ 1000000) (hbl : (rbytes l).length ≤ 4294967296) =>
    Rw.Put_row w'.heap.size A A3 c c3 T l w' (HRT.out w' h) hl (Nat.le_refl _) (by omega) (by omega) hv hbl)
  clear hok hsz
  obtain ⟨w1, hmk, hown1, hb1⟩ := make_vals w T.length (by omega)
  have hnl : (List.replicate T.length null).length = T.length := by simp
  have P0 := HP.out w1 (List.replicate T.length null) (some ⟨w.heap.size, 0, none⟩) T.length hb1 (rd_own hown1) (fun v hv => by rw [List.eq_of_mem_replicate hv]; exact vsm_null) (by simp; omega) (by
    have h1 := bsAt_end (List.replicate T.length null)
    have h2 := bsAt_len (List.replicate T.length null) (List.replicate T.length null).length
    rw [h1, List.take_length] at h2
    have h3 := flatv_bound 0 (List.replicate T.length null) (fun v hv => by rw [List.eq_of_mem_replicate hv]; unfold i64r null; simp) (by omega)
    rw [hnl] at h2 h3
    unfold size8 at h2
    have : T.length * (10 + 0) ≤ 1000 * 10 := Nat.mul_le_mul hTl (by omega)
    omega)
  rw [hnl] at P0
  have E0 := rput_nuls T
  obtain ⟨⟨rb, rc⟩, hrr⟩ : ∃ r0, r0 = rput T (List.replicate T.length null) := ⟨_, rfl⟩
  rw [← hrr] at P0 E0
  dsimp only at E0
  clear hrr hnl hown1
  by_cases hk : knownT T = true
  case neg =>
    have hk0 : knownT T = false := by simpa using hk
    rw [if_neg hk] at E0
    have HR := Lib.hid (show segMake T rows = ([], 1) by unfold segMake; rw [if_pos hk0])
    subst E0
    have HP0 := Lib.hid P0
    clear P0 hk hk0
    go_enter Try.func11, Try.ntmps11
    go_wp2_with fail
    refine HP0.out.mono ?_; rintro e w2 ⟨A2, c2, rfl, hown2, hb2⟩
    clear hown2
    go_wp2_with fail
    go_ret2
    exact retBBE_err HR.out (hb1.trans (hb2.mono hb1.size))
  rw [if_pos hk] at E0
  subst E0
  have HP0 := Lib.hid P0
  have HK := Lib.hid hk
  clear P0 hk
  go_enter Try.func11, Try.ntmps11
  go_wp2_with fail
  refine HP0.out.mono ?_; rintro e w2 ⟨A2, c2, rfl, hown2, hb2⟩
  have hb02 : Below w.heap.size w w2 := hb1.trans (hb2.mono hb1.size)
  clear hown2 hb2 hmk HP0
  go_wp2_with fail
  go_loopw [37] (fun v37 wr => ∃ k : Nat, k ≤ rows.length ∧ v37 = .int .i64 k ∧ (∀ r ∈ rows.take k, rowok T r = true) ∧ Below w.heap.size w wr) (fun v37 _ => rows.length - (intOf v37).toNat)
  case atStart => exact ⟨0, by omega, rfl, by simp, hb02⟩
  case round =>
    obtain ⟨k, hk, rfl, hall, hbel⟩ := hrel
    have HALL := Lib.hid hall
    clear hall hb02 hb1
    by_cases hlt : k < rows.length
    case pos =>
      obtain ⟨r, hr0⟩ : ∃ r, rows[k]? = some r := ⟨_, List.getElem?_eq_getElem hlt⟩
      obtain ⟨o1, o2, o3⟩ := HOK.out r (List.mem_of_getElem? hr0)
      obtain ⟨ga, oa, a1, ca, rfl, hga, q0, hca, hra⟩ := rdN_at hr hr0
      have q1 := (hbel.cell (p := ⟨ga, oa + k, none⟩) (by show ga < _; omega)).trans q0
      have P1 := HP.out wr r a1 ca hbel ((hra.below (hbel.mono hB)).more (by have := hbel.size; omega)) o2 o1 o3
      have E1 := rput_code HK.out r
      obtain ⟨⟨rb, rc⟩, hrr⟩ : ∃ r0, r0 = rput T r := ⟨_, rfl⟩
      rw [← hrr] at P1 E1
      dsimp only at E1
      have hkI : (k : Int) < (rows.length : Int) := by omega
      have HR0 := Lib.hid hr0
      clear hrr q0 hra hr0 o1 o2 o3
      by_cases hro : rowok T r = true
      case neg =>
        rw [if_neg hro] at E1
        subst E1
        have hro0 : rowsOk T rows = false := by
          rw [← Bool.not_eq_true]
          intro h
          exact hro (rowsOk_mem h r (List.mem_of_getElem? HR0.out))
        have HR := Lib.hid (show segMake T rows = ([], 1) by unfold segMake; rw [if_neg (by rw [HK.out]; simp), if_pos hro0])
        have HP1 := Lib.hid P1
        clear P1 hro hro0
        go_wp2_with fail
        refine HP1.out.mono ?_; rintro e w3 ⟨A3, c3, rfl, hown3, hb3⟩
        clear hown3
        go_wp2_with fail
        go_ret2
        exact retBBE_err HR.out (hbel.trans (hb3.mono hbel.size))
      rw [if_pos hro] at E1
      subst E1
      have HRO := Lib.hid hro
      have HP1 := Lib.hid P1
      clear P1 hro
      go_wp2_with fail
      refine HP1.out.mono ?_; rintro e w3 ⟨A3, c3, rfl, hown3, hb3⟩
      have hb03 := hbel.trans (hb3.mono hbel.size)
      clear hown3
      go_wp2_with fail
      go_roundw
      case rel =>
        refine ⟨k + 1, by omega, by go_num, fun u hu => ?_, hb03⟩
        rw [List.take_add_one, HR0.out] at hu
        rcases List.mem_append.1 hu with h | h
        · exact HALL.out u h
        · simp at h; rw [h]; exact HRO.out
      case measure => simp [intOf]; omega
    have hkk : k = rows.length := by omega
    have hge : (rows.length : Int) ≤ (k : Int) := by omega
    have hro : rowsOk T rows = true := by
      have h := HALL.out
      rw [hkk, List.take_length] at h
      exact List.all_eq_true.2 h
    by_cases hlong : 65536 < rows.length
    case pos =>
      have hlI : (65536 : Int) < (rows.length : Int) := by omega
      have HR := Lib.hid (show segMake T rows = ([], 2) by unfold segMake; rw [if_neg (by rw [HK.out]; simp), if_neg (by rw [hro]; simp), if_pos hlong])
      clear hkk hro
      go_wp2_with fail
      go_ret2
      exact retBBE_err HR.out hbel
    have HSG := Lib.hid (HSZ.out HK.out hro (by omega))
    have HR := Lib.hid (show segMake T rows = (chunk (segBytes T rows.length (colsOf T.length rows)), 0) by unfold segMake; rw [if_neg (by rw [HK.out]; simp), if_neg (by rw [hro]; simp), if_neg hlong])
    have HRO := Lib.hid hro
    have hlI : ¬ (65536 : Int) < (rows.length : Int) := by omega
    have hl2 : rows.length ≤ 65536 := by omega
    have KT := Lib.hid (turned_any wr.heap.size A A' T.length c c' rows wr (HRR.out wr hbel) (Nat.le_refl _) (by omega) hl (fun r hr => rowok_len (rowsOk_mem hro r hr)))
    have hcl := colsOf_length T.length rows
    have hrm : ∀ (i : Nat) (t : UInt8) (l : List V), T[i]? = some t → (colsOf T.length rows)[i]? = some l → l = colAt rows i ∧ colok t l = true := fun i t l ht hl => by
      rw [colsOf_at rows (List.getElem?_eq_some_iff.1 ht).1] at hl
      simp at hl
      exact ⟨hl.symm, by rw [← hl]; exact col_ok HK.out hro hl2 ht⟩
    have hbo := bnds_ok (T := T) hcl (fun i t l ht hl => (colok_parts (hrm i t l ht hl).2).2.2)
    have hvs : ∀ l ∈ colsOf T.length rows, l.length ≤ 65536 ∧ ∀ v ∈ l, vsm v := fun l hl => by
      obtain ⟨i, _, rfl⟩ := colsOf_mem hl
      exact ⟨by rw [colAt_length]; exact hl2, colAt_vsm (fun r hr => (HOK.out r hr).2.1) i⟩
    have hct : ∀ l ∈ colsOf T.length rows, l.length ≤ rows.length := fun l hl => by
      obtain ⟨i, _, rfl⟩ := colsOf_mem hl
      rw [colAt_length]; exact Nat.le_refl _
    have hpx : rput T (least (colsOf T.length rows)) = (rbytes (least (colsOf T.length rows)), 0) := by unfold rput; rw [HK.out, hbo.1]; rfl
    have hpy : rput T (greatest (colsOf T.length rows)) = (rbytes (greatest (colsOf T.length rows)), 0) := by unfold rput; rw [HK.out, hbo.2]; rfl
    obtain ⟨cs, hcs⟩ : ∃ cs, cs = colsOf T.length rows := ⟨_, rfl⟩
    rw [← hcs] at HSG HR KT hcl hrm hvs hpx hpy
    have HRM := Lib.hid hrm
    have HVS := Lib.hid hvs
    have HCL := Lib.hid hcl
    have hcm : cs.length ≤ 1000 := by omega
    clear hcl
    have h1 := segHead_le T rows.length cs
    have h2 := segTo_le T rows.length cs 0
    rw [segTo_0] at h2
    have h3 := HSG.out
    have HPX := Lib.hid hpx
    have HPY := Lib.hid hpy
    have hdef : segHead T rows.length cs = vput rows.length ++ part1 (rput T (least cs)).1 ++ part1 (rput T (greatest cs)).1 := rfl
    clear hkk hro hlong HALL hlt hrm hvs hpx hpy hbo hcs hct
    go_wp2_with fail
    refine KT.out.mono ?_; rintro e w3 ⟨A3, c3, rfl, hown3, hb3⟩
    have hb03 := hbel.trans (hb3.mono hbel.size)
    have rd3 := hown3.rd
    have KB := Lib.hid (sbounds_any w3.heap.size A A3 c c3 T cs w3 (HRT.out w3 hb03) rd3 (Nat.le_refl _) (by omega) (by omega) (fun l hl => ⟨by have := (HVS.out l hl).1; omega, (HVS.out l hl).2⟩)
      (by rw [show (rbytes (least cs)) = (rput T (least cs)).1 by rw [HPX.out]]; omega) (by rw [show (rbytes (greatest cs)) = (rput T (greatest cs)).1 by rw [HPY.out]]; omega))
    obtain ⟨x, hx⟩ : ∃ x, x = (rput T (least cs)).1 := ⟨_, rfl⟩
    obtain ⟨y, hy⟩ : ∃ y, y = (rput T (greatest cs)).1 := ⟨_, rfl⟩
    rw [← hx, ← hy] at KB h1 hdef
    have HDEF := Lib.hid hdef
    have hxl : x.length ≤ 4000000000 ∧ y.length ≤ 4000000000 := by omega
    have hx1 := part1_le x
    have hy1 := part1_le y
    have hsum : (vput rows.length).length + (part1 x).length + (part1 y).length ≤ 4000000000 := by
      have := congrArg List.length hdef
      rw [List.length_append, List.length_append] at this
      omega
    clear hx hy hdef hown3 h1 h2 h3 HPX HPY KT hbel hb3
    go_wp2_with fail
    refine KB.out.mono ?_; rintro e w4 ⟨A4, c4, A5, c5, rfl, r4, r5, _, hb4⟩
    have hb04 := hb03.trans (hb4.mono hb03.size)
    have rd4 := rd3.next hb4
    have KV0 := Put_any w4.heap.size none 0 [] rows.length (by omega) w4 (.inl rfl) (by simp)
    rw [List.nil_append] at KV0
    have KV := Lib.hid KV0
    have hwn : IntKind.u64.wrap (rows.length : Int) = (rows.length : Int) := by rw [IntKind.wrap_u64]; omega
    obtain ⟨vn, hvn⟩ : ∃ vn, vn = vput rows.length := ⟨_, rfl⟩
    rw [← hvn] at KV HDEF hsum
    clear KV0 hvn rd3
    go_wp2_with fail
    refine KV.out.mono ?_; rintro e w5 ⟨A6, c6, rfl, hown6, hb5⟩
    have hb05 := hb04.trans (hb5.mono hb04.size)
    have KP1 := Lib.hid (part_any w5.heap.size A6 A4 c6 c4 vn x w5 (rd_own hown6) (r4.next hb5) (Nat.le_refl _) (by omega))
    have r5' := r5.next hb5
    have rd5 := rd4.next hb5
    obtain ⟨h1, hh1⟩ : ∃ h1, h1 = vn ++ part1 x := ⟨_, rfl⟩
    have hl1 : h1.length + y.length ≤ 4200000000 := by rw [hh1, List.length_append]; omega
    rw [← hh1] at KP1 HDEF
    clear hh1 hown6 KV r4 r5 rd4
    go_wp2_with fail
    refine KP1.out.mono ?_; rintro e w6 ⟨A7, c7, rfl, hown7, hb6⟩
    have hb06 := hb05.trans (hb6.mono hb05.size)
    have KP2 := part_any w6.heap.size A7 A5 c7 c5 h1 y w6 (rd_own hown7) (r5'.next hb6) (Nat.le_refl _) hl1
    have rd6 := rd5.next hb6
    rw [← HDEF.out, ← segTo_0] at KP2
    have HKP2 := Lib.hid KP2
    clear KP1 KP2 hown7 r5' rd5 hb6 hb5 hb4
    go_wp2_with fail
    refine HKP2.out.mono ?_; rintro e w7 ⟨A8, c8, rfl, hown8, hb7⟩
    have hb07 := hb06.trans (hb7.mono hb06.size)
    have rd7 := rd6.next hb7
    have rt7 := HRT.out w7 hb07
    clear HKP2 hb7 rd6
    go_wp2_with fail
    obtain ⟨wq, hwq⟩ : ∃ w2, w2 = wr := ⟨_, rfl⟩
    subst hwq
    have hm : cs.length ≤ 1000 := by omega
    obtain ⟨m, hm2⟩ : ∃ m, m = cs.length := ⟨_, rfl⟩
    have HMC := Lib.hid hm2
    rw [← hm2] at hm ⊢
    clear hm2
    go_loopw [15, 73] (fun v15 v73 wr => ∃ (i : Nat) (A9 : Option Addr) (c9 : Nat), i ≤ m ∧ v73 = .int .i64 i ∧ v15 = .slice A9 (segTo T rows.length cs i).length c9 ∧ Rd wr wr.heap.size A9 (cells (segTo T rows.length cs i)) ∧ (segTo T rows.length cs i).length ≤ c9 ∧ Below w7.heap.size w7 wr) (fun _ v73 _ => m - (intOf v73).toNat)
    case atStart => exact ⟨0, A8, c8, by omega, rfl, rfl, rd_own hown8, own_le hown8, Below.refl _ _⟩
    case round =>
      obtain ⟨i, A9, c9, hi, rfl, rfl, rd9, hc9, hbel⟩ := hrel
      by_cases hlt : i < m
      case pos =>
        have hmT : m = T.length := by rw [HMC.out, HCL.out]
        obtain ⟨t, ht⟩ : ∃ t, T[i]? = some t := ⟨_, List.getElem?_eq_getElem (by omega)⟩
        obtain ⟨l, hl0⟩ : ∃ l, cs[i]? = some l := ⟨_, List.getElem?_eq_getElem (by have := HMC.out; omega)⟩
        obtain ⟨hl1, hl3⟩ := HVS.out l (List.mem_of_getElem? hl0)
        have hcok := (HRM.out i t l ht hl0).2
        obtain ⟨gt, ot, hgA, hgt, t0⟩ := rd_byte rt7 ht
        subst hgA
        obtain ⟨gc, oc, a1, ca, hgC, hgc, q0, hca, hra⟩ := rdN_at rd7 hl0
        subst hgC
        have t1 := (hbel.cell (p := ⟨gt, ot + i, none⟩) hgt).trans t0
        have q1 := (hbel.cell (p := ⟨gc, oc + i, none⟩) hgc).trans q0
        have hnx := segTo_next (n := rows.length) ht hl0
        have hle := segTo_le T rows.length cs (i + 1)
        have hle0 := HSG.out
        rw [hnx, List.length_append] at hle
        have hpl := part1_le (cput t l).1
        have KC0 := cput_any t a1 ca l wr ((hra.below hbel).more hbel.size) hl3 (by omega) (fun _ => by have := words_le2 hcok hl1; omega) (fun _ => by have := cbody_le hcok; omega)
        have hcode : cput t l = ((cput t l).1, 0) := by rw [cput_of hcok]
        rw [hcode] at KC0
        obtain ⟨p, hp⟩ : ∃ p, p = (cput t l).1 := ⟨_, rfl⟩
        rw [← hp] at KC0 hnx hle hpl
        have KC := Lib.hid KC0
        have HNX := Lib.hid hnx
        have hiI : (i : Int) < (m : Int) := by omega
        have hiT : i < T.length := by omega
        have hiTI : (i : Int) < (T.length : Int) := by omega
        obtain ⟨b, hb⟩ : ∃ b, b = segTo T rows.length cs i := ⟨_, rfl⟩
        rw [← hb] at rd9 HNX hc9 hle ⊢
        have hbp : b.length + p.length ≤ 4200000000 := by omega
        clear KC0 hcode hp hnx hle hle0 hpl t0 q0 ht hl0 hl1 hl3 hcok hra hb hmT
        go_wp2_with fail
        refine KC.out.mono ?_; rintro e v1 ⟨A10, c10, rfl, hown10, hbv1⟩
        have KP3 := Lib.hid (part_any v1.heap.size A9 A10 c9 c10 b p v1 (rd9.next hbv1) (rd_own hown10) (Nat.le_refl _) hbp)
        clear hown10 KC t1 q1
        go_wp2_with fail
        refine KP3.out.mono ?_; rintro e v2 ⟨A11, c11, rfl, hown11, hbv2⟩
        have hb11 := hbel.trans ((hbv1.trans (hbv2.mono hbv1.size)).mono hbel.size)
        rw [← HNX.out] at hown11
        have r11 := rd_own hown11
        have l11 := own_le hown11
        have HLN := Lib.hid (show (b ++ part1 p).length = (segTo T rows.length cs (i + 1)).length by rw [HNX.out])
        clear KP3 hown11
        go_wp2_with fail
        go_roundw
        case rel => exact ⟨i + 1, A11, c11, by omega, by go_num, by rw [HNX.out, List.length_append], r11, l11, hb11⟩
        case measure => simp [intOf]; omega
      have him : i = m := by omega
      have hge : (m : Int) ≤ (i : Int) := by omega
      have hse : segTo T rows.length cs i = segBytes T rows.length cs := by rw [him, HMC.out, HCL.out]; exact segTo_end HCL.out
      have hbz := hb07.trans (hbel.mono hb07.size)
      rw [hse] at rd9 hc9 ⊢
      have hn9 := HSG.out
      have hnp := segBytes_pos T rows.length cs
      obtain ⟨b, hb⟩ : ∃ b, b = segBytes T rows.length cs := ⟨_, rfl⟩
      rw [← hb] at rd9 hc9 HR hn9 hnp ⊢
      obtain ⟨n, hn⟩ : ∃ n, n = b.length := ⟨_, rfl⟩
      have HN := Lib.hid hn
      rw [← hn] at hc9 hn9 hnp ⊢
      clear him hse hb hn rd7 rt7 HRM HVS HSG hown8 hbel
      go_wp2_with fail
      obtain ⟨wa, hwa⟩ : ∃ w2, w2 = wr := ⟨_, rfl⟩
      subst hwa
      go_loopw [20, 21] (fun v20 v21 wr => ∃ (j : Nat) (ss : List (Option Addr × Nat × Nat)), j ≤ many n ∧ v21 = .int .i64 (1000 * (j : Int)) ∧ ss.length = j ∧ wr.ownsRow wa.heap.size 22 1 v20 j (ss.map sl3) ∧
          (∀ (q : Nat) (s : Option Addr × Nat × Nat), ss[q]? = some s → s.2.1 = (pieceAt b q).length ∧ s.2.1 ≤ s.2.2 ∧ Rd wa wa.heap.size s.1 (cells (pieceAt b q))) ∧ Below wa.heap.size wa wr) (fun _ v21 _ => n - (intOf v21).toNat)
      case atStart => exact ⟨0, [], by omega, rfl, rfl, World.ownsRow_nil _ _ _ _, by simp, Below.refl _ _⟩
      case round =>
        obtain ⟨j, ss, hj, rfl, hsl, hown, hpc, hbel⟩ := hrel
        have HPC := Lib.hid hpc
        have HSL := Lib.hid hsl
        have hbs := hbel.size
        clear hpc hsl
        obtain ⟨A20, c20, rfl, hc20⟩ := own_form hown
        by_cases hlt : 1000 * j < n
        case pos =>
          have hjm := many_lt.1 hlt
          obtain ⟨v, hv⟩ : ∃ v, v = min (1000 * j + 1000) n := ⟨_, rfl⟩
          have hv1 : 1000 * j ≤ v ∧ v ≤ n := by omega
          obtain ⟨A21, c21, hrun, hrd, hcl⟩ := mid3_any c9 (1000 * j) v hv1.1 (by rw [← HN.out]; exact hv1.2) (by rw [← HN.out]; exact hc9) rd9
          have hpe : (b.drop (1000 * j)).take (v - 1000 * j) = pieceAt b j := by
            unfold pieceAt
            by_cases h : 1000 * j + 1000 ≤ n
            · rw [show v - 1000 * j = 1000 by omega]
            · rw [List.take_of_length_le (by rw [List.length_drop, ← HN.out]; omega), List.take_of_length_le (by rw [List.length_drop, ← HN.out]; omega)]
          rw [hpe, ← HN.out] at hrun
          rw [hpe] at hrd hcl
          have hrun2 := fun w' => hrun w' (1000 * (j : Int)) ((v : Nat) : Int) (by omega) rfl
          have hvI : (if (n : Int) < 1000 * (j : Int) + 1000 then (n : Int) else 1000 * (j : Int) + 1000) = ((v : Nat) : Int) := by split <;> omega
          have hltI : 1000 * (j : Int) < (n : Int) := by omega
          have hj9 : j ≤ 4000000 := by unfold many at hjm; omega
          have HRD := Lib.hid hrd
          have HCL2 := Lib.hid hcl
          obtain ⟨pl, hpl⟩ : ∃ pl, pl = (pieceAt b j).length := ⟨_, rfl⟩
          have HPL := Lib.hid hpl
          rw [← hpl] at hrun2
          clear hrun hpe hv hrd hcl hpl
          go_wp2_with (at_builtin; refine wpList_app El_bs rfl _ _ rfl (hown.alloc _) rfl rfl (by exact rd_one _ _ _ _ _ rfl (Nat.lt_add_one _)) rfl (by intro u hu; simp at hu; subst hu; rfl) (by unfold maxLen; omega) (by omega) (by simp; omega) ?_; intro v6 w6 hown6 hg6 _)
          have hb6 : Below wa.heap.size wa w6 := (hbel.alloc hbs _).trans (own_below (hown.alloc _) hg6 (by simp; omega))
          go_roundw
          case rel =>
            refine ⟨j + 1, ss ++ [(A21, pl, c21)], by omega, by go_num, by simp [HSL.out], by rw [List.map_append]; exact hown6, fun q s hs => ?_, hb6⟩
            rcases Nat.lt_or_ge q ss.length with hq | hq
            · rw [List.getElem?_append_left hq] at hs
              exact HPC.out q s hs
            · have hqj : q = ss.length := by
                have := (List.getElem?_eq_some_iff.1 hs).1
                simp at this; omega
              subst hqj
              rw [List.getElem?_append_right (Nat.le_refl _)] at hs
              simp at hs
              subst hs
              rw [HSL.out]
              exact ⟨HPL.out, by rw [HPL.out]; exact HCL2.out, HRD.out⟩
          case measure => simp [intOf]; omega
        have hjm : j = many n := by
          have : ¬ j < many n := fun h => hlt (many_lt.2 h)
          omega
        have hgeI : ¬ (1000 * (j : Int) < (n : Int)) := by omega
        have HJM := Lib.hid hjm
        have hj9 : j ≤ 4000000 := by unfold many at hjm; omega
        have hch := chunk_length b
        rw [← HN.out, ← hjm] at hch
        have HCH := Lib.hid hch
        have hj0 : 0 < j := by unfold many at hjm; omega
        obtain ⟨g, cap, hA20, hg1, hg2⟩ := own_ptr hown hj0
        simp only [Value.slice.injEq, true_and] at hA20
        obtain ⟨rfl, rfl⟩ := hA20
        have hjn : ∀ q, q < j → q < many b.length := fun q hq => by rw [← HN.out]; omega
        have HJN := Lib.hid hjn
        clear hjm hch hlt hjn
        go_wp2_with fail
        obtain ⟨wb, hwb⟩ : ∃ w2, w2 = wr := ⟨_, rfl⟩
        subst hwb
        go_loopw [112] (fun v112 wr => ∃ (k : Nat) (tt : List (Option Addr × Nat × Nat)), k ≤ j ∧ v112 = .int .i64 k ∧ tt.length = j ∧ wr.ownsRow wa.heap.size 22 1 (.slice (some ⟨g, 0, none⟩) j c20) j (tt.map sl3) ∧
            (∀ (q : Nat) (s : Option Addr × Nat × Nat), tt[q]? = some s → s.2.1 = (pieceAt b q).length ∧ (q < k → wr.ownsRow wb.heap.size 5 1 (sl3 s) (pieceAt b q).length (cells (pieceAt b q))) ∧ (k ≤ q → Rd wr wa.heap.size s.1 (cells (pieceAt b q)))) ∧
            (∀ (q u : Nat) (s x : Option Addr × Nat × Nat), q ≠ u → q < k → u < k → tt[q]? = some s → tt[u]? = some x → Ap (sl3 s) (sl3 x)) ∧ Below wa.heap.size wa wr ∧ wb.heap.size ≤ wr.heap.size) (fun v112 _ => j - (intOf v112).toNat)
        case atStart => exact ⟨0, ss, by omega, rfl, HSL.out, hown, fun q s hs => ⟨(HPC.out q s hs).1, fun h => by omega, fun _ => (HPC.out q s hs).2.2.below hbel⟩, fun q u s x _ h => by omega, hbel, Nat.le_refl _⟩
        case round =>
          obtain ⟨k, tt, hk, rfl, htl, hown2, hel, hap, hbel2, hzb⟩ := hrel
          have HTL := Lib.hid htl
          have HEL := Lib.hid hel
          have HAP := Lib.hid hap
          clear htl hel hap hown
          by_cases hlk : k < j
          case neg =>
            have hkj : k = j := by omega
            have hgeK : (j : Int) ≤ (k : Int) := by omega
            have hwz : w.heap.size ≤ wa.heap.size := hbz.size
            have hbw : Below w.heap.size w wr := hbz.trans (hbel2.mono hwz)
            have hfin : OwnBB wr w.heap.size (.slice (some ⟨g, 0, none⟩) j c20) (chunk b) := by
              refine ⟨tt, by rw [HTL.out, HCH.out], by rw [HTL.out]; exact own_lower hown2 hwz, fun q s p hs hp => ?_, fun q u s x hqu hs hx => ?_⟩
              · have hqj : q < j := by rw [← HTL.out]; exact (List.getElem?_eq_some_iff.1 hs).1
                rw [chunk_at (HJN.out q hqj)] at hp
                simp at hp
                subst hp
                obtain ⟨a1, a2, _⟩ := HEL.out q s hs
                exact ⟨a1, own_lower (a2 (by omega)) (by have := hbs; omega)⟩
              · have hqj : q < j := by rw [← HTL.out]; exact (List.getElem?_eq_some_iff.1 hs).1
                have huj : u < j := by rw [← HTL.out]; exact (List.getElem?_eq_some_iff.1 hx).1
                exact HAP.out q u s x hqu (by omega) (by omega) hs hx
            have HF := Lib.hid hfin
            clear hfin hkj hown2
            go_wp2_with fail
            go_ret2
            rw [HR.out]
            refine ⟨some ⟨g, 0, none⟩, c20, ?_, ?_, hbw⟩
            · rw [HCH.out]; rfl
            · rw [HCH.out]; exact HF.out
          obtain ⟨⟨s1, s2, s3⟩, hs⟩ : ∃ s, tt[k]? = some s := ⟨_, List.getElem?_eq_getElem (by rw [HTL.out]; exact hlk)⟩
          obtain ⟨e1, _, e2⟩ := HEL.out k _ hs
          dsimp only at e1 e2
          have hrk := e2 (Nat.le_refl _)
          have sc := hown2.cellAt k (by omega)
          rw [List.getElem?_map, hs] at sc
          have sf := hown2.frozenAt k
          simp only [Option.map_some, sl3] at sc
          subst e1
          have hwab := hbel2.size
          have KC := Lib.hid (cloneB_any wr.heap.size s1 s3 (pieceAt b k) wr (hrk.more (by omega)) (Nat.le_refl _) (by rw [pieceAt_length]; omega))
          have HS := Lib.hid hs
          have hkI : (k : Int) < (j : Int) := by omega
          have hgw : g < wr.heap.size := by omega
          clear hs hrk e2
          go_wp2_with fail
          refine KC.out.mono ?_; rintro e w8 ⟨A8, c8', rfl, hown8, hb8⟩
          have sc8 := cell_be sc hb8 hgw
          have sf8 := (hb8.frozen (p := ⟨g, k, none⟩) hgw).trans sf
          have HO8 := Lib.hid hown8
          have l8 := own_le hown8
          obtain ⟨pl, hpl⟩ : ∃ pl, pl = (pieceAt b k).length := ⟨_, rfl⟩
          have HPL := Lib.hid hpl
          rw [← hpl] at sc8 l8 ⊢
          clear hown8 sc sf hpl KC
          go_wp2_with fail
          go_roundw
          case rel =>
            have hz8 := hb8.size
            have hst := ((own_bel hown2 hb8).stored k (.slice A8 pl c8')).1
            have ho8 := HO8.out
            have keep : ∀ {base' q : Nat} {u : Value} {xs : List Value}, wb.heap.size ≤ base' → w8.ownsRow base' 5 1 u q xs → (w8.setCell ⟨g, k, none⟩ (.slice A8 pl c8')).ownsRow base' 5 1 u q xs := fun hb hu =>
              own_grown hu (grown_set _ g k _) (fun y hy e => by
                have := (hu.lt y hy).1
                simp at e; omega)
            have hbl : Below wa.heap.size wr (w8.setCell ⟨g, k, none⟩ (.slice A8 pl c8')) := (hb8.mono hbel2.size).setCell (p := ⟨g, k, none⟩) hg1 _
            have hfr : ∀ (q : Nat) (s : Option Addr × Nat × Nat), q < k → tt[q]? = some s → Ap (sl3 s) (.slice A8 pl c8') := fun q s hq hs => by
              have hu := (HEL.out q s hs).2.1 hq
              rcases hx : (sl3 s).ownBlock with _ | y
              · exact .inl hx
              · right
                rw [hx]
                intro e
                have h1 := (hu.lt y hx).2
                rw [HPL.out] at e
                have h2 := (ho8.lt y e.symm).1
                omega
            refine ⟨k + 1, tt.set k (A8, pl, c8'), by omega, by go_num, by rw [List.length_set]; exact HTL.out, ?_, fun q s hq => ?_, fun q u s x hqu h1 h2 hq hu => ?_, hbel2.trans hbl, by simp [World.setCell]; omega⟩
            · rw [List.map_set]; exact hst
            · rw [List.getElem?_set] at hq
              by_cases hkq : k = q
              · subst hkq
                rw [if_pos rfl, if_pos (by rw [HTL.out]; exact hlk)] at hq
                simp at hq
                subst hq
                refine ⟨HPL.out, fun _ => ?_, fun h => by omega⟩
                have := keep hzb ho8
                rw [← HPL.out] at this ⊢
                exact own_lower this hzb
              · rw [if_neg hkq] at hq
                obtain ⟨a1, a2, a3⟩ := HEL.out q s hq
                exact ⟨a1, fun h => keep (Nat.le_refl _) (own_bel (a2 (by omega)) hb8), fun h => (a3 (by omega)).below hbl⟩
            · rw [List.getElem?_set] at hq hu
              by_cases hkq : k = q
              · subst hkq
                rw [if_pos rfl, if_pos (by rw [HTL.out]; exact hlk)] at hq
                rw [if_neg hqu] at hu
                simp at hq
                subst hq
                exact (hfr u x (by omega) hu).symm
              · rw [if_neg hkq] at hq
                by_cases hku : k = u
                · subst hku
                  rw [if_pos rfl, if_pos (by rw [HTL.out]; exact hlk)] at hu
                  simp at hu
                  subst hu
                  exact hfr q s (by omega) hq
                · rw [if_neg hku] at hu
                  exact HAP.out q u s x hqu (by omega) (by omega) hq hu
          case measure => simp [intOf]; omega
end Go.Proofs.Ythkpgjcnnfdibaa

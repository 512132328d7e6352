/- The walks of the reference's texts and Put (layer 6). No condition but sizes. -/
import Derived.Test.YtiijnfakphhbeaaCR1
import Derived.Test.YtiijnfakphhbeaaCR2
import Derived.Test.YtiijnfakphhbeaaJntRefG
namespace Go.Proofs.Ytiijnfakphhbeaa
open Go.RowKit Go.Maps
set_option linter.unusedVariables false
set_option linter.unusedSimpArgs false

set_option maxHeartbeats 4000000 in
set_option maxRecDepth 100000 in
theorem rtexts_any (B : Nat) (A : Option Addr) (c : Nat) (l : List V) (w : World) (hl : Rd w B A (vcells l)) (hB : B ≤ w.heap.size) (hll : l.length ≤ 65536) (hk3 : ∀ v ∈ l, v.k = 3) (hT : ((words l).flatMap wbytes).length ≤ 4000000000) :
    Calls Try.prog 34 #[.slice A l.length c] w (RetB w (tput l)) := by
  have W0 := rWords_any B A c l w hl hB hll hk3
  obtain ⟨ws, hws⟩ : ∃ ws, ws = words l := ⟨_, rfl⟩
  have hwl : ws.length ≤ 65536 := by
    rw [hws]
    have := wordsF_len l []
    simp only [List.length_nil, Nat.zero_add] at this
    exact Nat.le_trans this hll
  have hmem : ∀ v ∈ l, v.t ∈ ws := fun v hv => by rw [hws]; exact wordsF_mem l [] v hv
  have hend : tput l = mOf ws l l.length := by rw [hws]; unfold mOf tput; rw [List.take_length]
  rw [← hws] at W0 hT
  obtain ⟨n, hn⟩ : ∃ n, n = l.length := ⟨_, rfl⟩
  obtain ⟨m, hm⟩ : ∃ m, m = ws.length := ⟨_, rfl⟩
  rw [← hn] at hll W0 hend ⊢
  rw [← hm] at hwl
  have P0 := fun w => rPut_any m (by omega) w
  have hWL := fun k => wOf_le ws k (by omega)
  have hML := fun k h => mOf_le ws l k (by omega) h
  have hmid : wOf ws m = mOf ws l 0 := by unfold wOf mOf; rw [hm, List.take_length]; simp
  have hst : vput m = wOf ws 0 := by unfold wOf; rw [hm]; simp
  have HW := Lib.hid W0
  have HP := Lib.hid P0
  have HN := Lib.hid hn
  have HM := Lib.hid hm
  have HEND := Lib.hid hend
  have HMEM := Lib.hid hmem
  have HWL := Lib.hid hWL
  have HML := Lib.hid hML
  have HMID := Lib.hid hmid
  have HST := Lib.hid hst
  have hmw : IntKind.u64.wrap (m : Int) = (m : Int) := by rw [IntKind.wrap_u64]; omega
  clear W0 P0 hn hws hend hmem hWL hML hmid hst hk3
  go_enter Try.func34, Try.ntmps34
  go_wp2_with fail
  refine HW.out.mono ?_; rintro e w1 ⟨A1, c1, rfl, hown1, hb1⟩
  rw [← hm] at hown1 ⊢
  clear hm
  go_wp2_with fail
  refine (HP.out _).mono ?_; rintro e w2 ⟨A2, c2, rfl, hown2, hb2⟩
  have hs2 := rd_own (own_bel hown1 hb2)
  have hb02 : Below w.heap.size w w2 := hb1.trans (hb2.mono hb1.size)
  have hz1 := hb1.size
  rw [HST.out] at hown2 ⊢
  have hs1 := rd_own hown1
  clear hown1
  go_wp2_with fail
  go_loopw [4, 5] (fun v4 v5 wr => ∃ k : Nat, k ≤ m ∧ v5 = .int .i64 k ∧ wr.ownsRow w1.heap.size 5 1 v4 (wOf ws k).length (cells (wOf ws k)) ∧ Below w1.heap.size w1 wr) (fun _ v5 _ => m - (intOf v5).toNat)
  case atStart => exact ⟨0, by omega, rfl, hown2, hb2⟩
  case round =>
    clear hown2 hb2 hs2 hb02
    obtain ⟨k, hk, rfl, hown, hbel⟩ := hrel
    have hzr := hbel.size
    by_cases hlt : k < m
    case neg =>
      have hkm : k = m := by omega
      have hge : (m : Int) ≤ (k : Int) := by omega
      rw [hkm, HMID.out] at hown
      have hb0r : Below w.heap.size w wr := hb1.trans (hbel.mono hz1)
      have hsr := hs1.below hbel
      have HLT := Lib.hid hlt
      clear hkm hlt
      go_wp2_with fail
      rw [show decide (k < m) = false from decide_eq_false HLT.out]
      obtain ⟨wx, hwx⟩ : ∃ wx, wx = wr := ⟨_, rfl⟩
      rw [← hwx] at hown hbel hzr hb0r hsr ⊢
      go_loopw [4, 6] (fun v4 v6 ws' => ∃ q : Nat, q ≤ n ∧ v6 = .int .i64 q ∧ ws'.ownsRow w1.heap.size 5 1 v4 (mOf ws l q).length (cells (mOf ws l q)) ∧ Below w1.heap.size w1 ws') (fun _ v6 _ => n - (intOf v6).toNat)
      case atStart => exact ⟨0, by omega, rfl, hown, hbel⟩
      case round =>
        clear hown hbel hzr hb0r hsr hge hwx
        obtain ⟨q, hq, rfl, hown, hbel⟩ := hrel
        have hzr := hbel.size
        by_cases hlt : q < n
        case neg =>
          have hqn : q = n := by omega
          have hge : (n : Int) ≤ (q : Int) := by omega
          rw [hqn, ← HEND.out] at hown
          clear hqn
          go_wp2_with fail
          go_ret
          exact retB_of (own_lower hown hz1) (hb1.trans (hbel.mono hz1))
        obtain ⟨v, hv⟩ : ∃ v, l[q]? = some v := ⟨_, List.getElem?_eq_getElem (by rw [← HN.out]; exact hlt)⟩
        obtain ⟨gb, go, rfl, hgb, q0, q1, q2⟩ := rd_val hl hv
        have hb0r : Below w.heap.size w wr := hb1.trans (hbel.mono hz1)
        have f2 := (hb0r.cell (p := ⟨gb, go + q * 3 + 2, none⟩) (by show gb < _; omega)).trans q2
        have hqI : (q : Int) < (n : Int) := by omega
        have hsr := hs1.below hbel
        have hix : ws.idxOf v.t < m := by rw [HM.out]; exact List.idxOf_lt_length_iff.2 (HMEM.out v (List.mem_of_getElem? hv))
        have X0 := fun w h => rWhich_any w1.heap.size A1 c1 ws v.t w h (by rw [← HM.out]; omega)
        have hsn := mOf_snoc (ws := ws) hv
        have hl1 := HML.out q (by omega)
        have hl2 := HML.out (q + 1) (by omega)
        obtain ⟨ix, hixx⟩ : ∃ ix, ix = ws.idxOf v.t := ⟨_, rfl⟩
        rw [← hixx] at hix X0 hsn
        rw [← HM.out] at X0
        have Y0 := fun w => rPut_any ix (by omega) w
        have hixw : IntKind.u64.wrap (ix : Int) = (ix : Int) := by rw [IntKind.wrap_u64]; omega
        obtain ⟨ov, hov⟩ : ∃ ov, ov = vput ix := ⟨_, rfl⟩
        rw [← hov] at Y0 hsn
        obtain ⟨bs, hbs⟩ : ∃ bs, bs = mOf ws l q := ⟨_, rfl⟩
        rw [← hbs] at hown hsn hl1
        rw [hsn, List.length_append] at hl2
        have HX := Lib.hid X0
        have HY := Lib.hid Y0
        have HSN := Lib.hid hsn
        clear q0 q1 q2 hv X0 Y0 hsn hixx hov hbs
        go_wp2_with fail
        refine (HX.out _ hsr).mono ?_; rintro e w4 ⟨rfl, rfl⟩
        go_wp2_with fail
        refine (HY.out _).mono ?_; rintro e w5 ⟨A5, c5, rfl, hown5, hb5⟩
        have hown6 := own_bel hown hb5
        have hb15 : Below w1.heap.size w1 w5 := hbel.trans (hb5.mono hzr)
        have hrd5 := rd_own hown5
        clear hown hown5
        go_wp2_with (at_builtin; refine wpList_app El_u8 rfl _ _ rfl hown6 rfl rfl hrd5 (by simp) (cells_one ov) (by unfold maxLen; omega) (by omega) hb15.size ?_; intro v7 w7 hown7 hg7 _)
        have hb7 : Below w1.heap.size w1 w7 := hb15.trans (own_below hown6 hg7 hb15.size)
        go_roundw
        case rel =>
          refine ⟨q + 1, by omega, by go_num, ?_, hb7⟩
          rw [HSN.out, cells_append, List.length_append]; exact hown7
        case measure => simp [intOf]; omega
    obtain ⟨t, ht⟩ : ∃ t, ws[k]? = some t := ⟨_, List.getElem?_eq_getElem (by rw [← HM.out]; exact hlt)⟩
    have hsr := hs1.below hbel
    obtain ⟨gb, go, rfl, hgb, hcl⟩ := hsr.at (k := k) (by rw [List.length_map, ← HM.out]; exact hlt)
    have hck := hcl k (txt t) (by rw [List.getElem?_map, ht]; rfl)
    have hck1 := (hbel.cell (p := ⟨gb, go + k, none⟩) hgb).symm.trans hck
    have hkI : (k : Int) < (m : Int) := by omega
    have hsn := wOf_snoc ht
    have hl1 := HWL.out k
    have hl2 := HWL.out (k + 1)
    obtain ⟨bs, hbs⟩ : ∃ bs, bs = wOf ws k := ⟨_, rfl⟩
    rw [← hbs] at hown hsn hl1
    rw [hsn, List.length_append, List.length_append] at hl2
    have Y0 := fun w => rPut_any t.length (by omega) w
    obtain ⟨ov, hov⟩ : ∃ ov, ov = vput t.length := ⟨_, rfl⟩
    rw [← hov] at Y0 hsn hl2
    obtain ⟨tl, htl⟩ : ∃ tl, tl = t.length := ⟨_, rfl⟩
    have htw : IntKind.u64.wrap (tl : Int) = (tl : Int) := by rw [IntKind.wrap_u64]; omega
    have hsz : ∀ h : True, (⟨t.toArray⟩ : ByteArray).size = tl := fun _ => by rw [htl]; simp [ByteArray.size]
    have htw2 : IntKind.u64.wrap (t.length : Int) = (t.length : Int) := by rw [← htl]; exact htw
    have HY := Lib.hid Y0
    have HSN := Lib.hid hsn
    clear hcl ht Y0 hsn hov hbs htl hsz
    go_wp2_with fail
    refine (HY.out _).mono ?_; rintro e w5 ⟨A5, c5, rfl, hown5, hb5⟩
    have hck5 := cell_be hck hb5 (cell_lt hck)
    have hown6 := own_bel hown hb5
    have hb15 : Below w1.heap.size w1 w5 := hbel.trans (hb5.mono hzr)
    have hrd5 := rd_own hown5
    clear hown hown5
    have tok1 : True := trivial
    go_wp2_with (first
      | (at_builtin; have _t := tok1; refine wpList_app El_u8 rfl _ _ rfl hown6 rfl rfl hrd5 (by simp) (cells_one ov) (by unfold maxLen; omega) (by omega) hb15.size ?_; clear tok1; intro v7 w7 hown7 hg7 _; have hb7 : Below w1.heap.size w1 w7 := hb15.trans (own_below hown6 hg7 hb15.size); have hck7 : w7.cell? ⟨gb, go + k, none⟩ = some (txt t) := (hb7.cell (p := ⟨gb, go + k, none⟩) hgb).trans hck1; have hz7 := hb7.size)
      | (at_builtin; refine wpList_app_str rfl _ _ rfl hown7 rfl rfl (by omega) hz7 ?_; intro v8 w8 hown8 hg8))
    have hb8 : Below w1.heap.size w1 w8 := hb7.trans (own_below hown7 hg8 hz7)
    go_roundw
    case rel =>
      refine ⟨k + 1, by omega, by go_num, ?_, hb8⟩
      rw [HSN.out, cells_append, cells_append, List.length_append, List.length_append]; exact hown8
    case measure => simp [intOf]; omega

/-! ### Put -/
theorem Try.infoI64 : (Try.prog.info? 2).map (fun i => (i.zero, i.size, i.bytes)) = some (some (.int .i64 0), 1, 8) := by kernel_rfl
theorem El_i64c : El Try.prog 62 2 1 8 := el_of Try.underlying62 Try.infoI64 rfl (by decide)
theorem El_boolc : El Try.prog 61 4 1 1 := el_of Try.underlying61 Try.infoBool rfl (by decide)
theorem nulls_F (l : List V) : bitsN l.length (blF (l.map isNull)) = bitsN l.length (nullAt l) := bitsN_congr fun i hi => by
  unfold blF nullAt
  rw [List.getD_eq_getElem?_getD, List.getElem?_map, List.getElem?_eq_getElem hi]; rfl
theorem truths_F (m : List V) : bitsN m.length (blF (m.map fun v => decide (v.n = 1))) = bitsN m.length (truthAt m) := bitsN_congr fun i hi => by
  unfold blF truthAt
  rw [List.getD_eq_getElem?_getD, List.getElem?_map, List.getElem?_eq_getElem hi]; rfl
theorem bool_own {w : World} {base : Nat} {v : Value} {m : List Bool} {x : Bool} {n : Nat} (h : w.ownsRow base 4 1 v (m.length + 1) (bools m ++ [.bool x])) (hn : n = m.length + 1) : w.ownsRow base 4 1 v n (bools (m ++ [x])) := by
  subst hn; unfold bools; rw [List.map_append]; exact h
end Go.Proofs.Ytiijnfakphhbeaa

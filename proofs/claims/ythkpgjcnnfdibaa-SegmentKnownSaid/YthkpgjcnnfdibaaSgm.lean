/- Joined texts: see the remark ahead of each part. No condition but those that the parts name. -/
import Derived.Test.YthkpgjcnnfdibaaSgi
/-! The walk of SegmentBack (layer 7). No condition. Printed by gen_sgl3.py. -/
namespace Go.Proofs.Ythkpgjcnnfdibaa
open Go.RowKit Go.Maps
set_option linter.unusedVariables false
set_option linter.unusedSimpArgs false

/-- what is opened is made as the same pieces -/
theorem back_open {T : List UInt8} {ps : List (List UInt8)} (hh : hvy7 T ps = false) (h : (sopen T ps).e = 0) :
    ∃ rows, rowsE (sopen T ps) = (rows, 0) ∧ segMake T rows = (ps, 0) ∧ rows.length ≤ 1000000 ∧ (∀ r ∈ rows, r.length ≤ 1000000 ∧ (∀ v ∈ r, vsm v) ∧ (rbytes r).length ≤ 4294967296) ∧ (segBytes T rows.length (colsOf T.length rows)).length ≤ 3900000000 := by
  obtain ⟨hT, hP, hF, _⟩ := few_size hh
  obtain ⟨hk, cs, n, hn, hc, hpc, hse⟩ := sopen_inv (by omega) h
  obtain ⟨hro, hrl, hrv⟩ := hc.rows
  have hcr := colsOf_rows hc.1 (fun l hl => (hc.mem hl).1)
  have hln := rowsOf_length n cs
  refine ⟨rowsOf n cs, by rw [hse]; rfl, ?_, by omega, fun r hr => ?_, ?_⟩
  · unfold segMake
    rw [if_neg (by simp [hk]), if_neg (by simp [hro]), if_neg (by omega), hcr, hln, ← hpc]
  · have h1 := rbytes_le 1000000 r (fun v hv => (hrv r hr v hv).2) (by omega)
    have h2 := hrl r hr
    have h3 : r.length * (10 + 1000000) ≤ 12 * (10 + 1000000) := Nat.mul_le_mul (by omega) (by omega)
    exact ⟨by omega, hrv r hr, by omega⟩
  · rw [hcr, hln]
    have h1 := congrArg List.flatten hpc
    rw [chunk_flat] at h1
    rw [← h1]; omega
/-- what is made is opened as it was -/
theorem back_make {T : List UInt8} {rows : List (List V)} (hF : Fits T rows) (hk : knownT T = true) (hro : rowsOk T rows = true) :
    ∃ q, segMake T rows = (q, 0) ∧ pcsOk q = true ∧ q.length ≠ 0 ∧ q.length ≤ 1000 ∧ rowsE (sopen T q) = (rows, 0) ∧ q.flatten.length ≤ 1000000 ∧ ((vget q.flatten).1 ≤ 65536 → ((vget q.flatten).1 + 1) * (q.flatten.length + 10) ≤ 4000000000) ∧ q = chunk (segBytes T rows.length (colsOf T.length rows)) := by
  have hc := hF.cols hk hro
  have hs := hF.size hk hro
  have hn := hF.n
  have hpos : segBytes T rows.length (colsOf T.length rows) ≠ [] := List.ne_nil_of_length_pos (segBytes_pos _ _ _)
  obtain ⟨h1, h2⟩ := chunk_ok hpos
  have h3 := sopen_put hk (by omega) hc (by omega)
  have h4 := chunk_flat (segBytes T rows.length (colsOf T.length rows))
  have h5 := hF.make
  have hm : segMake T rows = (chunk (segBytes T rows.length (colsOf T.length rows)), 0) := by
    unfold segMake
    rw [if_neg (by simp [hk]), if_neg (by simp [hro]), if_neg (by omega)]
  rw [hm] at h5
  refine ⟨_, hm, h1, h2, h5, ?_, by rw [h4]; omega, ?_, rfl⟩
  · rw [h3]
    unfold rowsE
    dsimp only
    rw [rowsOf_cols (fun r hr => rowok_len (rowsOk_mem hro r hr))]
  · rw [h4]
    have hv : (vget (segBytes T rows.length (colsOf T.length rows))).1 = rows.length := by
      unfold segBytes segHead
      rw [List.append_assoc, List.append_assoc, vget_vput (by omega)]
    intro _
    rw [hv]
    have h7 : rows.length + 1 ≤ 201 := by omega
    have h8 : (segBytes T rows.length (colsOf T.length rows)).length + 10 ≤ 600010 := by omega
    exact Nat.le_trans (Nat.mul_le_mul h7 h8) (by decide)
theorem make_no {T : List UInt8} {rows : List (List V)} (h : (knownT T && rowsOk T rows) = false) : segMake T rows = ([], 1) := by
  unfold segMake
  by_cases hk : knownT T = false
  · rw [if_pos hk]
  · rw [if_neg hk, if_pos (by simp at hk; rw [hk] at h; simpa using h)]
set_option maxHeartbeats 2000000 in
set_option maxRecDepth 100000 in
theorem segmentBack_walk (A : Option Addr) (c : Nat) (T : List UInt8) (A' : Option Addr) (c' : Nat) (rows : List (List V)) (B' : Option Addr) (d' : Nat) (ps : List (List UInt8)) (W : World) (hT : Rd W W.heap.size A (cells T)) (hTc : T.length ≤ c ∧ c ≤ maxLen)
    (hr : RdVV W W.heap.size A' rows) (hrc : rows.length ≤ c' ∧ c' ≤ maxLen) (hv : ∀ r ∈ rows, r.length ≤ maxLen ∧ ∀ v ∈ r, vok v) (hp : RdBB W W.heap.size B' ps) (hpc : ps.length ≤ d' ∧ d' ≤ maxLen) (hpv : ∀ p ∈ ps, p.length ≤ maxLen) :
    Calls Try.prog 5 #[.slice A T.length c, .slice A' rows.length c', .slice B' ps.length d'] W fun e w' => e = .returned (.bool true) ∧ Below W.heap.size W w' := by
  have KL := long7_any W.heap.size A A' c c' T rows W hr (Nat.le_refl _) (by omega) (by omega)
  by_cases hlg : lng7 T rows = true
  case pos =>
    rw [hlg] at KL
    have HL := Lib.hid KL
    clear KL hlg
    go_enter Try.func5, Try.ntmps5
    go_wp2_with fail
    refine HL.out.mono ?_; rintro e w1 ⟨rfl, hq⟩
    subst hq
    go_wp2_with fail
    go_ret
    exact ⟨rfl, Below.refl _ _⟩
  have hlf : lng7 T rows = false := by simpa using hlg
  rw [hlf] at KL
  have HL := Lib.hid KL
  have KH := heavy_any W.heap.size A B' c d' T ps W hp (Nat.le_refl _) (by omega) (by omega)
  by_cases hhg : hvy7 T ps = true
  case pos =>
    rw [hhg] at KH
    have HH := Lib.hid KH
    clear KL hlg hlf KH hhg
    go_enter Try.func5, Try.ntmps5
    go_wp2_with fail
    refine HL.out.mono ?_; rintro e w1 ⟨rfl, hq⟩
    subst hq
    go_wp2_with fail
    refine HH.out.mono ?_; rintro e w1 ⟨rfl, hq⟩
    subst hq
    go_wp2_with fail
    go_ret
    exact ⟨rfl, Below.refl _ _⟩
  have hhf : hvy7 T ps = false := by simpa using hhg
  rw [hhf] at KH
  have HH := Lib.hid KH
  have hF := fits_of hlf hv
  have hTl := hF.t
  have hRl := hF.n
  obtain ⟨_, hPl, hPf, hPn⟩ := few_size hhf
  have HTR := Lib.hid (fun (w' : World) (h : Below W.heap.size W w') => (hT.below h).more (B' := w'.heap.size) h.size)
  have KM := Lib.hid (smake_any W.heap.size A A' c c' T rows W hT hr (Nat.le_refl _) (by omega) (by omega) hF.rowb (fun h1 h2 _ => by have := hF.size h1 h2; omega))
  have KY := Lib.hid (fun (w' : World) (h : Below W.heap.size W w') => may7_any W.heap.size A A' c c' T rows w' (hT.below h) (hr.below h) h.size (by omega) (by omega) (fun r hr => ⟨(hv r hr).1, fun v hv2 => ((hv r hr).2 v hv2).1⟩))
  have KS := Lib.hid (fun (w' : World) (A3 : Option Addr) (c3 : Nat) (h : Below W.heap.size W w') (h2 : RdVV w' w'.heap.size A3 rows) => rsame_self w'.heap.size A3 A' c3 c' rows w' h2 ((hr.below h).more h.size) (Nat.le_refl _) (by omega) (fun r hr => (hv r hr).1))
  have KP := Lib.hid (fun (w' : World) (A3 : Option Addr) (c3 : Nat) (h : Below W.heap.size W w') (h2 : RdBB w' w'.heap.size A3 ps) => rpieces_self w'.heap.size A3 B' c3 d' ps w' h2 ((hp.below h).more h.size) (Nat.le_refl _) (by omega))
  have KO := Lib.hid (fun (w' : World) (h : Below W.heap.size W w') => sgopen_any A B' c d' T ps w' ((hT.below h).more h.size) ((hp.below h).more h.size) (by omega) (by omega) (by omega) hPn)
  have HE0 := Lib.hid (segErr_or T ps (by omega))
  have HBO := Lib.hid (fun h => back_open hhf h)
  have HBM := Lib.hid (fun h1 h2 => back_make hF h1 h2)
  obtain ⟨s, hs⟩ : ∃ s, s = sopen T ps := ⟨_, rfl⟩
  rw [← hs] at KO HE0 HBO
  have hTlen : T.length ≤ 12 := hTl
  clear KL hlg hlf KH hhg hhf hF hTc hrc hv hp hpc hpv hPn hs hT hr
  by_cases hmay : (knownT T && rowsOk T rows) = true
  case neg =>
    have hm0 : (knownT T && rowsOk T rows) = false := by simpa using hmay
    obtain ⟨q, hq⟩ : ∃ q : List (List UInt8), q = [] := ⟨_, rfl⟩
    rw [make_no hm0, ← hq] at KM
    rw [hm0] at KY
    have HQ := Lib.hid hq
    clear hmay hm0 hq
    go_enter Try.func5, Try.ntmps5
    go_wp2_with fail
    refine HL.out.mono ?_; rintro e w1 ⟨rfl, hq⟩
    subst hq
    go_wp2_with fail
    refine HH.out.mono ?_; rintro e w1 ⟨rfl, hq⟩
    subst hq
    go_wp2_with fail
    refine KM.out.mono ?_; rintro e w1 ⟨A2, c2, rfl, own2, hb1⟩
    have K2 := Lib.hid (KY.out w1 hb1)
    clear own2
    dsimp only
    go_wp2_with fail
    refine K2.out.mono ?_; rintro e w2 ⟨rfl, hb2⟩
    have hb02 := hb1.trans (hb2.mono hb1.size)
    have HPQ := Lib.hid (show ∀ (i : Nat) (p : List UInt8), q[i]? = some p → (i + 1 < q.length → p.length = 1000) ∧ 1 ≤ p.length ∧ p.length ≤ 1000 from by rw [HQ.out]; simp)
    have HRQ := Lib.hid (show RdBB w2 w2.heap.size A2 q from by rw [HQ.out]; exact RdN.nil _ _ _)
    have hql : q.length ≤ 1000 := by rw [HQ.out]; simp
    obtain ⟨w4, hw4⟩ : ∃ w4, w4 = w2 := ⟨_, rfl⟩
    subst hw4
    have hb04 := hb02
    clear K2 hb2 hb1 KM hb02
    go_wp2_with fail
    go_loop [11] (fun v11 => ∃ k : Nat, k ≤ q.length ∧ v11 = .int .i64 k) (fun v11 => q.length - (intOf v11).toNat)
    case atStart => exact ⟨0, by omega, rfl⟩
    case round =>
      obtain ⟨k, hk, rfl⟩ := hrel
      by_cases hlt : k < q.length
      case pos =>
        obtain ⟨x, hx⟩ : ∃ x, q[k]? = some x := ⟨_, List.getElem?_eq_getElem hlt⟩
        obtain ⟨f1, f2, f3⟩ := HPQ.out k x hx
        obtain ⟨ga, oa, a1, ca, hgA, hga, q0, _, _⟩ := rdN_at HRQ.out hx
        subst hgA
        have hkI : (k : Int) < (q.length : Int) := by omega
        have g2 : ¬ (x.length : Int) < 1 := by omega
        have g3 : ¬ (1000 : Int) < (x.length : Int) := by omega
        by_cases h1 : k + 1 < q.length
        · have h1I : (k : Int) + 1 < (q.length : Int) := by omega
          have g4 : ((x.length : Int) != 1000) = false := by have := f1 h1; simp; omega
          clear f1 f2 f3 hx
          go_wp2_with fail
          go_round
          case rel => exact ⟨k + 1, by omega, by go_num⟩
          case measure => simp [intOf]; omega
        · have h1I : ¬ (k : Int) + 1 < (q.length : Int) := by omega
          clear f1 f2 f3 hx
          go_wp2_with fail
          go_round
          case rel => exact ⟨k + 1, by omega, by go_num⟩
          case measure => simp [intOf]; omega
      have hge : (q.length : Int) ≤ (k : Int) := by omega
      have K5 := Lib.hid (KO.out w4 hb04)
      by_cases he : s.e = 0
      case neg =>
        have HSE := Lib.hid (show rowsE s = ([], s.e) by
          rcases HE0.out with h | h
          · exact absurd h he
          · rw [h]; rfl)
        rw [HSE.out] at K5
        obtain ⟨x, hx⟩ : ∃ x, x = s.e := ⟨_, rfl⟩
        rw [← hx] at he K5
        have hxI : ((x : Int) != 0) = true := by simp; omega
        clear hx he
        go_wp2_with fail
        refine K5.out.mono ?_; rintro e w5 ⟨A5, c5, rfl, _, hb5⟩
        have hb05 := hb04.trans (hb5.mono hb04.size)
        dsimp only
        clear K5
        go_wp2_with fail
        refine (makes_any w5).mono ?_; rintro e w6 ⟨rfl, hb6⟩
        have hb06 := hb05.trans (hb6.mono hb05.size)
        go_wp2_with fail
        go_ret
        exact ⟨rfl, hb06⟩
      obtain ⟨rows2, e1, e2, e3, e4, e5⟩ := HBO.out he
      rw [e1] at K5
      have KZ := Lib.hid (fun (w' : World) (A3 : Option Addr) (c3 : Nat) (h : Rd w' w'.heap.size A (cells T)) (h2 : RdVV w' w'.heap.size A3 rows2) => smake_any w'.heap.size A A3 c c3 T rows2 w' h h2 (Nat.le_refl _) (by omega) e3 e4 (fun _ _ _ => e5))
      rw [e2] at KZ
      clear e1 e2 e4 e5 he
      go_wp2_with fail
      refine K5.out.mono ?_; rintro e w5 ⟨A5, c5, rfl, own5, hb5⟩
      have hb05 := hb04.trans (hb5.mono hb04.size)
      have K6 := Lib.hid (KZ.out w5 A5 c5 (HTR.out w5 hb05) own5.rd)
      dsimp only
      clear K5 own5 KZ
      go_wp2_with fail
      refine K6.out.mono ?_; rintro e w6 ⟨A6, c6, rfl, own6, hb6⟩
      have hb06 := hb05.trans (hb6.mono hb05.size)
      have K7 := Lib.hid (KP.out w6 A6 c6 hb06 own6.rd)
      dsimp only
      clear K6 own6
      go_wp2_with fail
      refine K7.out.mono ?_; rintro e w7 ⟨rfl, hb7⟩
      have hb07 := hb06.trans (hb7.mono hb06.size)
      go_wp2_with fail
      refine (makes_any w7).mono ?_; rintro e w8 ⟨rfl, hb8⟩
      have hb08 := hb07.trans (hb8.mono hb07.size)
      go_wp2_with fail
      go_ret
      exact ⟨rfl, hb08⟩
  obtain ⟨hk1, hk2⟩ : knownT T = true ∧ rowsOk T rows = true := by rw [Bool.and_eq_true] at hmay; exact hmay
  obtain ⟨q, e1, e2, e3, e4, e5, e6, e7, e8⟩ := HBM.out hk1 hk2
  clear e8
  rw [e1] at KM
  rw [hmay] at KY
  have HPQ := Lib.hid (pcsOk_iff.1 e2)
  have KQ := Lib.hid (fun (w' : World) (A3 : Option Addr) (c3 : Nat) (h1 : Rd w' w'.heap.size A (cells T)) (h2 : RdBB w' w'.heap.size A3 q) => sgopen_any A A3 c c3 T q w' h1 h2 (by omega) (by omega) e6 e7)
  rw [e5] at KQ
  have hq0 : ((q.length : Int) == 0) = false := by simp; intro h; rw [h] at e3; exact e3 rfl
  clear e1 e2 e5 e6 e7 hk1 hk2 hmay HBM
  go_enter Try.func5, Try.ntmps5
  go_wp2_with fail
  refine HL.out.mono ?_; rintro e w1 ⟨rfl, hq⟩
  subst hq
  go_wp2_with fail
  refine HH.out.mono ?_; rintro e w1 ⟨rfl, hq⟩
  subst hq
  go_wp2_with fail
  refine KM.out.mono ?_; rintro e w1 ⟨A2, c2, rfl, own2, hb1⟩
  have K2 := Lib.hid (KY.out w1 hb1)
  have HO1 := Lib.hid own2
  clear own2
  dsimp only
  go_wp2_with fail
  refine K2.out.mono ?_; rintro e w2 ⟨rfl, hb2⟩
  have hb02 := hb1.trans (hb2.mono hb1.size)
  have HO2 := Lib.hid (HO1.out.below hb2)
  have K3 := Lib.hid (KQ.out w2 A2 c2 (HTR.out w2 hb02) HO2.out.rd)
  clear HO1 K2 hb2 hb1 KM
  go_wp2_with fail
  refine K3.out.mono ?_; rintro e w3 ⟨A3, c3, rfl, own3, hb3⟩
  have hb03 := hb02.trans (hb3.mono hb02.size)
  have HO3 := Lib.hid (HO2.out.below hb3)
  have K4 := Lib.hid (KS.out w3 A3 c3 hb03 own3.rd)
  clear own3 hb3 K3 HO2
  dsimp only
  go_wp2_with fail
  refine K4.out.mono ?_; rintro e w4 ⟨rfl, hb4⟩
  have hb04 := hb03.trans (hb4.mono hb03.size)
  have HRQ := Lib.hid (HO3.out.below hb4).rd
  clear hb4 K4 HO3 hb03 hb02
  go_wp2_with fail
  go_loop [11] (fun v11 => ∃ k : Nat, k ≤ q.length ∧ v11 = .int .i64 k) (fun v11 => q.length - (intOf v11).toNat)
  case atStart => exact ⟨0, by omega, rfl⟩
  case round =>
    obtain ⟨k, hk, rfl⟩ := hrel
    by_cases hlt : k < q.length
    case pos =>
      obtain ⟨x, hx⟩ : ∃ x, q[k]? = some x := ⟨_, List.getElem?_eq_getElem hlt⟩
      obtain ⟨f1, f2, f3⟩ := HPQ.out k x hx
      obtain ⟨ga, oa, a1, ca, hgA, hga, q0, _, _⟩ := rdN_at HRQ.out hx
      subst hgA
      have hkI : (k : Int) < (q.length : Int) := by omega
      have g2 : ¬ (x.length : Int) < 1 := by omega
      have g3 : ¬ (1000 : Int) < (x.length : Int) := by omega
      by_cases h1 : k + 1 < q.length
      · have h1I : (k : Int) + 1 < (q.length : Int) := by omega
        have g4 : ((x.length : Int) != 1000) = false := by have := f1 h1; simp; omega
        clear f1 f2 f3 hx
        go_wp2_with fail
        go_round
        case rel => exact ⟨k + 1, by omega, by go_num⟩
        case measure => simp [intOf]; omega
      · have h1I : ¬ (k : Int) + 1 < (q.length : Int) := by omega
        clear f1 f2 f3 hx
        go_wp2_with fail
        go_round
        case rel => exact ⟨k + 1, by omega, by go_num⟩
        case measure => simp [intOf]; omega
    have hge : (q.length : Int) ≤ (k : Int) := by omega
    have K5 := Lib.hid (KO.out w4 hb04)
    by_cases he : s.e = 0
    case neg =>
      have HSE := Lib.hid (show rowsE s = ([], s.e) by
        rcases HE0.out with h | h
        · exact absurd h he
        · rw [h]; rfl)
      rw [HSE.out] at K5
      obtain ⟨x, hx⟩ : ∃ x, x = s.e := ⟨_, rfl⟩
      rw [← hx] at he K5
      have hxI : ((x : Int) != 0) = true := by simp; omega
      clear hx he
      go_wp2_with fail
      refine K5.out.mono ?_; rintro e w5 ⟨A5, c5, rfl, _, hb5⟩
      have hb05 := hb04.trans (hb5.mono hb04.size)
      dsimp only
      clear K5
      go_wp2_with fail
      refine (makes_any w5).mono ?_; rintro e w6 ⟨rfl, hb6⟩
      have hb06 := hb05.trans (hb6.mono hb05.size)
      go_wp2_with fail
      go_ret
      exact ⟨rfl, hb06⟩
    obtain ⟨rows2, e1, e2, e3, e4, e5⟩ := HBO.out he
    rw [e1] at K5
    have KZ := Lib.hid (fun (w' : World) (A3 : Option Addr) (c3 : Nat) (h : Rd w' w'.heap.size A (cells T)) (h2 : RdVV w' w'.heap.size A3 rows2) => smake_any w'.heap.size A A3 c c3 T rows2 w' h h2 (Nat.le_refl _) (by omega) e3 e4 (fun _ _ _ => e5))
    rw [e2] at KZ
    clear e1 e2 e4 e5 he
    go_wp2_with fail
    refine K5.out.mono ?_; rintro e w5 ⟨A5, c5, rfl, own5, hb5⟩
    have hb05 := hb04.trans (hb5.mono hb04.size)
    have K6 := Lib.hid (KZ.out w5 A5 c5 (HTR.out w5 hb05) own5.rd)
    dsimp only
    clear K5 own5 KZ
    go_wp2_with fail
    refine K6.out.mono ?_; rintro e w6 ⟨A6, c6, rfl, own6, hb6⟩
    have hb06 := hb05.trans (hb6.mono hb05.size)
    have K7 := Lib.hid (KP.out w6 A6 c6 hb06 own6.rd)
    dsimp only
    clear K6 own6
    go_wp2_with fail
    refine K7.out.mono ?_; rintro e w7 ⟨rfl, hb7⟩
    have hb07 := hb06.trans (hb7.mono hb06.size)
    go_wp2_with fail
    refine (makes_any w7).mono ?_; rintro e w8 ⟨rfl, hb8⟩
    have hb08 := hb07.trans (hb8.mono hb07.size)
    go_wp2_with fail
    go_ret
    exact ⟨rfl, hb08⟩
end Go.Proofs.Ythkpgjcnnfdibaa

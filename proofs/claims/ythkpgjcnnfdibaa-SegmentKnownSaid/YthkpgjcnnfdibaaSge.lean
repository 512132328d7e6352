/- Joined texts: see the remark ahead of each part. No condition but those that the parts name. -/
import Derived.Test.YthkpgjcnnfdibaaSgd
import Derived.Test.YthkpgjcnnfdibaaRwb
import Derived.Deep.DeepCutAuto
/-! The walk of segment.read (layer 7): what a segment's bytes say, or the error. No condition but sizes. -/
namespace Go.Proofs.Ythkpgjcnnfdibaa
open Go.RowKit Go.Maps
set_option linter.unusedVariables false
set_option linter.unusedSimpArgs false

theorem five_new (w : World) : Five (((((w.alloc (.cells #[.slice none 0 0] 23)).alloc (.cells #[.int .i64 0] 3)).alloc (.cells #[.slice none 0 0] 37)).alloc (.cells #[.slice none 0 0] 37)).alloc (.cells #[.int .i64 0] 27)) w.heap.size (.slice none 0 0) (.int .i64 0) (.slice none 0 0) (.slice none 0 0) (.int .i64 0) := by
  refine ⟨((((Boxed.new w _ _).alloc _).alloc _).alloc _).alloc _, ?_, ?_, ?_, ?_⟩
  · have h := (((Boxed.new (w.alloc (.cells #[.slice none 0 0] 23)) 3 (.int .i64 0)).alloc (.cells #[.slice none 0 0] 37)).alloc (.cells #[.slice none 0 0] 37)).alloc (.cells #[.int .i64 0] 27)
    simpa using h
  · have h := ((Boxed.new ((w.alloc (.cells #[.slice none 0 0] 23)).alloc (.cells #[.int .i64 0] 3)) 37 (.slice none 0 0)).alloc (.cells #[.slice none 0 0] 37)).alloc (.cells #[.int .i64 0] 27)
    simpa using h
  · have h := (Boxed.new (((w.alloc (.cells #[.slice none 0 0] 23)).alloc (.cells #[.int .i64 0] 3)).alloc (.cells #[.slice none 0 0] 37)) 37 (.slice none 0 0)).alloc (.cells #[.int .i64 0] 27)
    simpa using h
  · have h := Boxed.new ((((w.alloc (.cells #[.slice none 0 0] 23)).alloc (.cells #[.int .i64 0] 3)).alloc (.cells #[.slice none 0 0] 37)).alloc (.cells #[.slice none 0 0] 37)) 27 (.int .i64 0)
    simpa using h
/-- a store into a box keeps bytes that are read -/
theorem rd_box {w : World} {B Q : Nat} {A : Option Addr} {l : List UInt8} {t : TypeId} {v : Value} (u : Value) (hr : Rd w B A (cells l)) (hb : Boxed w Q t v) (hv : ∀ x : Int, v ≠ .int .u8 x) : Rd (w.setCell ⟨Q, 0, none⟩ u) B A (cells l) := by
  rcases hr with h | ⟨b, o, hA, hlt, hc⟩
  · exact .inl h
  by_cases h0 : cells l = []
  · exact .inl h0
  refine .inr ⟨b, o, hA, hlt, fun j x hj => ?_⟩
  have hne : Q ≠ b := by
    rintro rfl
    obtain ⟨x, r, hx⟩ := List.exists_cons_of_ne_nil h0
    have h1 := hc 0 x (by rw [hx]; rfl)
    have hu : ∃ z : Int, x = .int .u8 z := by
      cases l with
      | nil => simp [cells] at h0
      | cons a l => simp [cells] at hx; exact ⟨_, hx.1.symm⟩
    obtain ⟨z, rfl⟩ := hu
    have h2 : w.heap[Q]? = some (.cells #[v] t (0, 0)) := hb
    simp [World.cell?, h2] at h1
    cases o with
    | zero => simp at h1; exact hv z h1
    | succ o => simp at h1
  exact (World.cell?_of_block (w := w) (Below.heap_setCell _ _ _ b (fun e => hne e.symm))).trans (hc j x hj)
theorem rdr_box {w : World} {R Q : Nat} {A : Option Addr} {l : List UInt8} {c : Nat} {t : TypeId} {v : Value} (u : Value) (hr : rdr w R A l c) (hb : Boxed w Q t v) (hv : ∀ x : Int, v ≠ .int .u8 x) (hQ : Q ≠ R) : rdr (w.setCell ⟨Q, 0, none⟩ u) R A l c :=
  ⟨boxed_oth hr.1 hQ, rd_box u hr.2.1 hb hv, hr.2.2⟩
set_option maxHeartbeats 8000000 in
set_option maxRecDepth 100000 in
theorem sread_any (A A' : Option Addr) (c c' : Nat) (T : List UInt8) (ps : List (List UInt8)) (w : World) (hT : Rd w w.heap.size A (cells T)) (hr : RdBB w w.heap.size A' ps) (hTl : T.length ≤ 1000) (hl : ps.length ≤ 1000000000)
    (hL : ps.flatten.length ≤ 1000000) (hn : (vget ps.flatten).1 ≤ 65536 → ((vget ps.flatten).1 + 1) * (ps.flatten.length + 10) ≤ 4000000000) :
    Calls Try.prog 37 #[.slice A T.length c, .slice A' ps.length c'] w (RetSeg w (sopen T ps)) := by
  have hmf : ∀ (fn : Fn) (first cap : Array Value) (w : World), (Instr.makeFunc fn first cap).run Try.prog w = .ok (.func fn first cap) w := fun _ _ _ _ => rfl
  have F5 := five_new w
  have B5 : Below w.heap.size w (((((w.alloc (.cells #[.slice none 0 0] 23)).alloc (.cells #[.int .i64 0] 3)).alloc (.cells #[.slice none 0 0] 37)).alloc (.cells #[.slice none 0 0] 37)).alloc (.cells #[.int .i64 0] 27)) :=
    (((((Below.refl _ w).alloc (by simp) _).alloc (by simp) _).alloc (by simp; omega) _).alloc (by simp; omega) _).alloc (by simp; omega) _
  have HF5 := Lib.hid F5
  have HB5 := Lib.hid B5
  clear F5 B5
  go_enter_defers Try.func37, Try.ntmps37
  go_upto_region 1 with fail
  obtain ⟨w0, hw0⟩ : ∃ w0, w0 = (((((w.alloc (.cells #[.slice none 0 0] 23)).alloc (.cells #[.int .i64 0] 3)).alloc (.cells #[.slice none 0 0] 37)).alloc (.cells #[.slice none 0 0] 37)).alloc (.cells #[.int .i64 0] 27)) := ⟨_, rfl⟩
  rw [← hw0] at HF5 HB5 ⊢
  clear hw0
  obtain ⟨P, hP⟩ : ∃ P, P = w.heap.size := ⟨_, rfl⟩
  rw [← hP] at HF5 HB5 ⊢
  rw [show P + 1 + 1 = P + 2 from rfl, show P + 2 + 1 = P + 3 from rfl, show P + 3 + 1 = P + 4 from rfl]
  have HP := Lib.hid hP
  have HRT := Lib.hid (fun (w' : World) (h : Below P w w') => (hT.below (hP ▸ h)).more (B' := w'.heap.size) (by have := h.size; omega))
  have HRR := Lib.hid (fun (w' : World) (h : Below P w w') => (hr.below (hP ▸ h)).more (B' := w'.heap.size) (by have := h.size; omega))
  have HLL := Lib.hid hL
  have HNN := Lib.hid hn
  clear hP hL hn hT
  obtain ⟨w1, hmk, hown1, hb1⟩ := make_vals w0 T.length (by omega)
  have hb01 := HB5.out.trans (hb1.mono (by have := HB5.out.size; have := HP.out; omega))
  have hnl : (List.replicate T.length null).length = T.length := by simp
  have P0 := Rw.Put_row w1.heap.size A (some ⟨w0.heap.size, 0, none⟩) c T.length T (List.replicate T.length null) w1 (HRT.out w1 hb01) (rd_own hown1) (Nat.le_refl _) (by omega) (by rw [hnl]; omega) (fun v hv => by rw [List.eq_of_mem_replicate hv]; exact vsm_null)
    (by have h3 := rbytes_le 0 (List.replicate T.length null) (fun v hv => by rw [List.eq_of_mem_replicate hv]; unfold i64r null; simp) (by omega); rw [hnl] at h3; omega)
  rw [hnl] at P0
  have E0 := rput_nuls T
  obtain ⟨⟨rb, rc⟩, hrr⟩ : ∃ r0, r0 = rput T (List.replicate T.length null) := ⟨_, rfl⟩
  rw [← hrr] at P0 E0
  dsimp only at E0
  have HF1 := Lib.hid (HF5.out.below hb1 HF5.out.lt)
  have HB1 := Lib.hid hb01
  clear hrr hnl hown1 hb01 hb1
  by_cases hk : knownT T = true
  case neg =>
    have hk0 : knownT T = false := by simpa using hk
    rw [if_neg hk] at E0
    have HR := Lib.hid (show sopen T ps = segErr 1 by unfold sopen; rw [if_pos hk0])
    subst E0
    have HP0 := Lib.hid P0
    clear P0 hk hk0
    go_wp2_with fail
    refine HP0.out.mono ?_; rintro e w2 ⟨A2, c2, rfl, hown2, hb2⟩
    have HF2 := Lib.hid (HF1.out.below hb2 HF1.out.lt)
    obtain ⟨b0, b1, b2, b3, b4⟩ := HF2.out
    have c0 := b0.cell; have c1 := b1.cell; have c2 := b2.cell; have c3 := b3.cell; have c4 := b4.cell
    have z0 := b0.frozen; have z1 := b1.frozen; have z2 := b2.frozen; have z3 := b3.frozen; have z4 := b4.frozen
    have HB2 := Lib.hid (HB1.out.trans (hb2.mono (by have := HF1.out.lt; omega)))
    clear hown2 b0 b1 b2 b3 b4 hb2
    go_wp2_with fail
    rw [HR.out]
    exact door_early HP.out rfl ⟨rfl, rfl, rfl, rfl, rfl⟩ (HF2.out.caught 1) (below_caught 1 HB2.out)
  rw [if_pos hk] at E0
  subst E0
  have HP0 := Lib.hid P0
  have HK := Lib.hid hk
  clear P0 hk
  go_wp2_with fail
  refine HP0.out.mono ?_; rintro e w2 ⟨A2, c2, rfl, hown2, hb2⟩
  have HF2 := Lib.hid (HF1.out.below hb2 HF1.out.lt)
  have HB2 := Lib.hid (HB1.out.trans (hb2.mono (by have := HF1.out.lt; omega)))
  clear hown2 hb2 hmk HP0
  go_wp2_with fail
  go_loop [35] (fun v35 => ∃ k : Nat, k ≤ ps.length ∧ v35 = .int .i64 k ∧ ∀ i, i < k → pcOk ps.length i (ps[i]?.getD []) = true) (fun v35 => ps.length - (intOf v35).toNat)
  case atStart => exact ⟨0, by omega, rfl, by intro i hi; omega⟩
  case round =>
    obtain ⟨k, hk, rfl, hall⟩ := hrel
    have HALL := Lib.hid hall
    clear hall
    by_cases hlt : k < ps.length
    case pos =>
      obtain ⟨p, hp⟩ : ∃ p, ps[k]? = some p := ⟨_, List.getElem?_eq_getElem hlt⟩
      obtain ⟨ga, oa, a1, ca, hgA, hga, q0, hca, hra⟩ := rdN_at (HRR.out w2 HB2.out) hp
      subst hgA
      have hkI : (k : Int) < (ps.length : Int) := by omega
      have hwr : IntKind.i64.wrap ((ps.length : Int) - 1) = (ps.length : Int) - 1 := by rw [IntKind.wrap_i64]; omega
      have HPK := Lib.hid (show pcOk ps.length k (ps[k]?.getD []) = pcOk ps.length k p by rw [hp]; rfl)
      have HPM := Lib.hid (show pcOk ps.length k p = false → pcsOk ps = false from fun h => by
        unfold pcsOk
        rw [List.all_eq_false]
        exact ⟨k, List.mem_range.2 hlt, by rw [hp, Option.getD_some, h]; simp⟩)
      clear hp hra hca
      by_cases h1 : (k : Int) < (ps.length : Int) - 1
      case pos =>
        by_cases h2 : p.length = 1000
        case pos =>
          have e2 : ((p.length : Int) != 1000) = false := by simp; omega
          have e3 : ¬ (p.length : Int) < 1 := by omega
          have e4 : ¬ (1000 : Int) < (p.length : Int) := by omega
          have HOK := Lib.hid (show pcOk ps.length k p = true by unfold pcOk; rw [h2]; simp)
          clear h2
          go_wp2_with fail
          go_round
          case rel =>
            refine ⟨k + 1, by omega, by go_num, fun i hi => ?_⟩
            rcases Nat.lt_or_ge i k with h | h
            · exact HALL.out i h
            · rw [show i = k by omega, HPK.out, HOK.out]
          case measure => simp [intOf]; omega
        case neg =>
          have e2 : ((p.length : Int) != 1000) = true := by simp; omega
          have HNO := Lib.hid (show pcOk ps.length k p = false by unfold pcOk; simp; omega)
          clear h2
          obtain ⟨b0, b1, b2, b3, b4⟩ := HF2.out
          have c0 := b0.cell; have c1 := b1.cell; have c2 := b2.cell; have c3 := b3.cell; have c4 := b4.cell
          have z0 := b0.frozen; have z1 := b1.frozen; have z2 := b2.frozen; have z3 := b3.frozen; have z4 := b4.frozen
          clear b0 b1 b2 b3 b4
          have HR := Lib.hid (show sopen T ps = segErr 21 by unfold sopen; rw [if_neg (by rw [HK.out]; simp), if_pos (HPM.out HNO.out)])
          go_wp2_with fail
          rw [HR.out]
          exact door_early HP.out rfl ⟨rfl, rfl, rfl, rfl, rfl⟩ (HF2.out.caught 21) (below_caught 21 HB2.out)
      have hk1 : ¬ k + 1 < ps.length := by omega
      by_cases h3 : p.length < 1
      case pos =>
        have e3 : (p.length : Int) < 1 := by omega
        have HNO := Lib.hid (show pcOk ps.length k p = false by
          unfold pcOk
          rw [decide_eq_true h3]
          simp)
        clear h3
        have HR := Lib.hid (show sopen T ps = segErr 21 by unfold sopen; rw [if_neg (by rw [HK.out]; simp), if_pos (HPM.out HNO.out)])
        obtain ⟨b0, b1, b2, b3, b4⟩ := HF2.out
        have c0 := b0.cell; have c1 := b1.cell; have c2 := b2.cell; have c3 := b3.cell; have c4 := b4.cell
        have z0 := b0.frozen; have z1 := b1.frozen; have z2 := b2.frozen; have z3 := b3.frozen; have z4 := b4.frozen
        clear b0 b1 b2 b3 b4
        go_wp2_with fail
        rw [HR.out]
        exact door_early HP.out rfl ⟨rfl, rfl, rfl, rfl, rfl⟩ (HF2.out.caught 21) (below_caught 21 HB2.out)
      have e3 : ¬ (p.length : Int) < 1 := by omega
      by_cases h4 : 1000 < p.length
      case pos =>
        have e4 : (1000 : Int) < (p.length : Int) := by omega
        have HNO := Lib.hid (show pcOk ps.length k p = false by
          unfold pcOk
          rw [decide_eq_true h4]
          simp)
        clear h4
        have HR := Lib.hid (show sopen T ps = segErr 21 by unfold sopen; rw [if_neg (by rw [HK.out]; simp), if_pos (HPM.out HNO.out)])
        obtain ⟨b0, b1, b2, b3, b4⟩ := HF2.out
        have c0 := b0.cell; have c1 := b1.cell; have c2 := b2.cell; have c3 := b3.cell; have c4 := b4.cell
        have z0 := b0.frozen; have z1 := b1.frozen; have z2 := b2.frozen; have z3 := b3.frozen; have z4 := b4.frozen
        clear b0 b1 b2 b3 b4
        go_wp2_with fail
        rw [HR.out]
        exact door_early HP.out rfl ⟨rfl, rfl, rfl, rfl, rfl⟩ (HF2.out.caught 21) (below_caught 21 HB2.out)
      have e4 : ¬ (1000 : Int) < (p.length : Int) := by omega
      have HOK := Lib.hid (show pcOk ps.length k p = true by
        unfold pcOk
        rw [decide_eq_false h3, decide_eq_false h4, decide_eq_false hk1]
        simp)
      clear h3 h4
      go_wp2_with fail
      go_round
      case rel =>
        refine ⟨k + 1, by omega, by go_num, fun i hi => ?_⟩
        rcases Nat.lt_or_ge i k with h | h
        · exact HALL.out i h
        · rw [show i = k by omega, HPK.out, HOK.out]
      case measure => simp [intOf]; omega
    have hkk : k = ps.length := by omega
    have hge : (ps.length : Int) ≤ (k : Int) := by omega
    have HPC := Lib.hid (show pcsOk ps = true from by
      unfold pcsOk
      rw [List.all_eq_true]
      intro i hi
      exact HALL.out i (by rw [hkk]; exact List.mem_range.1 hi))
    clear hkk HALL
    by_cases h0 : ps.length = 0
    case pos =>
      have HR := Lib.hid (show sopen T ps = segErr 21 by unfold sopen; rw [if_neg (by rw [HK.out]; simp), if_neg (by rw [HPC.out]; simp), if_pos h0])
      have e0 : ((ps.length : Int) == 0) = true := by simp; exact List.length_eq_zero_iff.1 h0
      clear h0
      obtain ⟨b0, b1, b2, b3, b4⟩ := HF2.out
      have c0 := b0.cell; have c1 := b1.cell; have c2 := b2.cell; have c3 := b3.cell; have c4 := b4.cell
      have z0 := b0.frozen; have z1 := b1.frozen; have z2 := b2.frozen; have z3 := b3.frozen; have z4 := b4.frozen
      clear b0 b1 b2 b3 b4
      go_wp2_with fail
      rw [HR.out]
      exact door_early HP.out rfl ⟨rfl, rfl, rfl, rfl, rfl⟩ (HF2.out.caught 21) (below_caught 21 HB2.out)
    have HS := Lib.hid (show sopen T ps = sread T ps.flatten by unfold sopen; rw [if_neg (by rw [HK.out]; simp), if_neg (by rw [HPC.out]; simp), if_neg h0])
    have e0 : ((ps.length : Int) == 0) = false := by simp; intro h; exact h0 (by rw [h]; rfl)
    clear h0 HPC
    go_wp2_with fail
    have KC := Lib.hid (cat_any A' c' ps w2 (HRR.out w2 HB2.out) hl (by have := HLL.out; omega))
    obtain ⟨b, hb⟩ : ∃ b, b = ps.flatten := ⟨_, rfl⟩
    rw [← hb] at HS HLL HNN KC
    clear hb hr
    refine KC.out.mono ?_; rintro e w3 ⟨A3, c3, rfl, hown3, hb3⟩
    have HF3 := Lib.hid (HF2.out.below hb3 HF2.out.lt)
    have HB3 := Lib.hid (HB2.out.trans (hb3.mono (by have := HF2.out.lt; omega)))
    have hc3 := own_le hown3
    have HR3 := Lib.hid (rd_own hown3)
    clear hown3 hb3 KC HF5 HB5 HF1 HB1
    go_upto_region 14 with fail
    obtain ⟨w4, hw4⟩ : ∃ w4, w4 = w3.alloc (.cells #[.slice A3 b.length c3] 99) := ⟨_, rfl⟩
    obtain ⟨R, hR⟩ : ∃ R, R = w3.heap.size := ⟨_, rfl⟩
    have HX4 := Lib.hid (show rdr w4 R A3 b c3 from by rw [hw4, hR]; exact ⟨Boxed.new _ _ _, HR3.out.below ((Below.refl _ w3).alloc (Nat.le_refl _) _), hc3⟩)
    have HB4 := Lib.hid (show Below P w w4 from by rw [hw4]; exact HB3.out.alloc (by have := HF3.out.lt; omega) _)
    have HF4 := Lib.hid (show Five w4 P (.slice none 0 0) (.int .i64 0) (.slice none 0 0) (.slice none 0 0) (.int .i64 0) from by rw [hw4]; exact HF3.out.below ((Below.refl _ w3).alloc (Nat.le_refl _) _) HF3.out.lt)
    have HRP := Lib.hid (show P + 5 ≤ R from by rw [hR]; exact HF3.out.lt)
    rw [← hw4, ← hR]
    clear hw4 hR HR3 HF3 HB3 hc3
    have hbl : b.length ≤ 4000000000 := by have := HLL.out; omega
    by_cases he : (vget b).2.2 = 0
    case neg =>
      have HR := Lib.hid (show sopen T ps = segErr (vget b).2.2 by rw [HS.out]; unfold sread; rw [if_pos he])
      have HN := Lib.hid (number_err R A3 b c3 w4 HX4.out hbl he)
      clear he
      go_wp2_with fail
      refine HN.out.mono ?_; rintro e w5 ⟨rfl, hq⟩
      subst hq
      rw [HR.out]
      exact door_pan HP.out rfl ⟨rfl, rfl, rfl, rfl, rfl⟩ HF4.out HB4.out
    have HN := Lib.hid (number_ok R A3 b c3 w4 HX4.out hbl he)
    have hv := vget_val b
    obtain ⟨n, hn⟩ : ∃ n, n = (vget b).1 := ⟨_, rfl⟩
    obtain ⟨r, hr⟩ : ∃ r, r = b.drop (vget b).2.1 := ⟨_, rfl⟩
    have hrl : r.length ≤ b.length := by rw [hr, List.length_drop]; omega
    have HRL := Lib.hid hrl
    have HS2 := Lib.hid (show sopen T ps = if 65536 < n then segErr 21 else sread1 T n (rpart r) by rw [HS.out]; unfold sread; rw [if_neg (by simp [he]), ← hn, ← hr])
    rw [← hn, ← hr] at HN
    rw [← hn] at HNN
    have hn64 : n < 18446744073709551616 := by rw [hn]; exact hv.1
    clear hv hn hr he HS hrl
    go_wp2_with fail
    refine HN.out.mono ?_; rintro e w5 ⟨rfl, A5, c5, hx5, hg5⟩
    have HX5 := Lib.hid hx5
    have hR4 : R < w4.heap.size := HX4.out.1.lt
    have hb5 := box_below hg5 (by omega)
    have HB5 := Lib.hid (HB4.out.trans (hb5.mono (by have := HRP.out; omega)))
    have HF5 := Lib.hid (HF4.out.below hb5 HRP.out)
    clear hx5 hg5 hb5 HN
    by_cases hbig : 65536 < n
    case pos =>
      have HR := Lib.hid (HS2.out.trans (if_pos hbig))
      have hI : (65536 : Int) < (n : Int) := by omega
      clear HS2 hbig
      go_wp2_with fail
      refine (must_err 21 (by omega) _).mono ?_; rintro e1 w6 ⟨rfl, hq⟩
      subst hq
      rw [HR.out]
      exact door_pan HP.out rfl ⟨rfl, rfl, rfl, rfl, rfl⟩ HF5.out HB5.out
    have HS3 := Lib.hid (HS2.out.trans (if_neg hbig))
    have hI : ¬ (65536 : Int) < (n : Int) := by omega
    have hw64 : IntKind.i64.wrap (n : Int) = (n : Int) := by rw [IntKind.wrap_i64]; omega
    have HNS := Lib.hid (HNN.out (by omega))
    obtain ⟨b0, b1, b2, b3, b4⟩ := HF5.out
    have q1 := b1.cell
    have z1 := b1.frozen
    clear HS2 b0 b1 b2 b3 b4 HNN
    go_upto_region 18 with fail
    obtain ⟨w6, hw6⟩ : ∃ w6, w6 = w5.setCell ⟨P + 1, 0, none⟩ (.int .i64 (n : Int)) := ⟨_, rfl⟩
    have HF6 := Lib.hid (show Five w6 P (.slice none 0 0) (.int .i64 (n : Int)) (.slice none 0 0) (.slice none 0 0) (.int .i64 0) from by rw [hw6]; exact HF5.out.set1 _)
    have HB6 := Lib.hid (show Below P w w6 from by rw [hw6]; exact HB5.out.setCell (p := ⟨P + 1, 0, none⟩) (by simp) _)
    have HX6 := Lib.hid (show rdr w6 R A5 r c5 from by rw [hw6]; exact rdr_box _ HX5.out HF5.out.2.1 (by simp) (by have := HRP.out; omega))
    rw [← hw6]
    clear hw6 q1 z1 HF5 HB5 HX5 HF4 HB4 HX4 hw64 hbl hI
    have hrl : r.length ≤ 4000000000 := by have := HRL.out; have := HLL.out; omega
    obtain ⟨⟨a, ra, ea⟩, hpa⟩ : ∃ x, x = rpart r := ⟨_, rfl⟩
    rw [← hpa] at HS3
    by_cases he : (rpart r).2.2 = 0
    case neg =>
      have HR := Lib.hid (show sopen T ps = segErr (rpart r).2.2 by rw [HS3.out]; unfold sread1; rw [if_pos (by rw [hpa]; exact he), hpa])
      have HN := Lib.hid (part_err R A5 r c5 w6 HX6.out hrl he)
      clear he hpa
      go_wp2_with fail
      refine HN.out.mono ?_; rintro e w7 ⟨rfl, hb7, _⟩
      rw [HR.out]
      exact door_pan HP.out rfl ⟨rfl, rfl, rfl, rfl, rfl⟩ (HF6.out.below hb7 HRP.out) (HB6.out.trans (hb7.mono (by have := HRP.out; omega)))
    have HNa := part_ok R A5 r c5 w6 HX6.out hrl he
    have HS4 := Lib.hid (show sopen T ps = sread2 T n a ra (rget T a) by rw [HS3.out]; unfold sread1; rw [if_neg (by rw [hpa]; simp [he])])
    have hle := rpart_le r
    unfold PartOk at HNa
    rw [← hpa] at HNa hle
    dsimp only at HNa hle
    have HLE := Lib.hid hle
    have HN := Lib.hid HNa
    have hR6 : R < w6.heap.size := HX6.out.1.lt
    have hal : a.length ≤ 4000000000 := by omega
    have HRAL := Lib.hid (show ra.length ≤ 4000000000 by omega)
    clear HNa hle hpa he HS3
    go_wp2_with fail
    refine HN.out.mono ?_; rintro e w7 ⟨A7, c7, A8, c8, rfl, ra7, hc7, hx7, hg7⟩
    have hb7 := box_below hg7 (by omega)
    have HB7 := Lib.hid (HB6.out.trans (hb7.mono (by have := HRP.out; omega)))
    have HF7 := Lib.hid (HF6.out.below hb7 HRP.out)
    have HX7 := Lib.hid hx7
    have HA7 := Lib.hid ra7
    have hR7 : R < w7.heap.size := HX7.out.1.lt
    have KGa := Rw.Get_row w7.heap.size A A7 c c7 T a w7 (HRT.out w7 HB7.out) (HA7.out.more (by omega)) (Nat.le_refl _) hc7 (by omega) (by omega)
    obtain ⟨⟨lo, eg⟩, hgl⟩ : ∃ x, x = rget T a := ⟨_, rfl⟩
    rw [← hgl] at KGa HS4
    have HGL := Lib.hid hgl
    have KG := Lib.hid KGa
    clear KGa hgl hb7 hx7 ra7 hg7 HN hR6 HF6 HB6 HX6
    go_wp2_with fail
    refine KG.out.mono ?_; rintro e w8 ⟨A9, c9, rfl, own9, hb8⟩
    have HF8 := Lib.hid (HF7.out.below hb8 HF7.out.lt)
    have HB8 := Lib.hid (HB7.out.trans (hb8.mono (by have := HF7.out.lt; omega)))
    have hb8R := hb8.mono (B' := R + 1) (by omega)
    have HX8 := Lib.hid (show rdr w8 R A8 ra c8 from ⟨boxed_bel HX7.out.1 hb8R (by omega), HX7.out.2.1.below (hb8R.mono (by omega)), HX7.out.2.2⟩)
    have HA8 := Lib.hid (show Rd w8 R A7 (cells a) from HA7.out.below (hb8R.mono (by omega)))
    have HO8 := Lib.hid (own_lower own9 (show R + 1 ≤ w7.heap.size by omega))
    have hR8 : R < w8.heap.size := HX8.out.1.lt
    obtain ⟨b0, b1, b2, b3, b4⟩ := HF8.out
    have q2 := b2.cell
    have z2 := b2.frozen
    have q4 := b4.cell
    have z4 := b4.frozen
    clear b0 b1 b2 b3 b4 own9 hb8 hb8R KG HF7 HB7 HX7 HA7
    go_upto_region 20 with fail
    obtain ⟨w9, hw9⟩ : ∃ w9, w9 = (w8.setCell ⟨P + 2, 0, none⟩ (.slice A9 lo.length c9)).setCell ⟨P + 4, 0, none⟩ (.int .i64 (eg : Int)) := ⟨_, rfl⟩
    have HF9 := Lib.hid (show Five w9 P (.slice none 0 0) (.int .i64 (n : Int)) (.slice A9 lo.length c9) (.slice none 0 0) (.int .i64 (eg : Int)) from by rw [hw9]; exact (HF8.out.set2 _).set4 _)
    have HB9 := Lib.hid (show Below P w w9 from by rw [hw9]; exact (HB8.out.setCell (p := ⟨P + 2, 0, none⟩) (by simp) _).setCell (p := ⟨P + 4, 0, none⟩) (by simp) _)
    have HX9 := Lib.hid (show rdr w9 R A8 ra c8 from by rw [hw9]; exact rdr_box _ (rdr_box _ HX8.out HF8.out.2.2.1 (by simp) (by have := HRP.out; omega)) (HF8.out.set2 _).2.2.2.2 (by simp) (by have := HRP.out; omega))
    have HA9 := Lib.hid (show Rd w9 R A7 (cells a) from by rw [hw9]; exact rd_box _ (rd_box _ HA8.out HF8.out.2.2.1 (by simp)) (HF8.out.set2 _).2.2.2.2 (by simp))
    have HO9 := Lib.hid (show w9.ownsRow (R + 1) 46 3 (.slice A9 lo.length c9) lo.length (vcells lo) from by rw [hw9]; exact own_box (own_box HO8.out (grown_set _ _ _ _) (by have := HRP.out; omega)) (grown_set _ _ _ _) (by have := HRP.out; omega))
    rw [← hw9]
    have hR9 : R < w9.heap.size := HX9.out.1.lt
    clear hw9 q2 z2 q4 z4 HF8 HB8 HX8 HA8 HO8
    obtain ⟨b0, b1, b2, b3, b4⟩ := HF9.out
    have q4 := b4.cell
    clear b0 b1 b2 b3 b4
    by_cases hg : eg = 0
    case neg =>
      have HR := Lib.hid (show sopen T ps = segErr eg by rw [HS4.out]; unfold sread2; rw [if_pos hg])
      go_wp2_with fail
      refine (must_err eg hg _).mono ?_; rintro e1 w10 ⟨rfl, hq⟩
      subst hq
      rw [HR.out]
      exact door_pan HP.out rfl ⟨rfl, rfl, rfl, rfl, rfl⟩ HF9.out HB9.out
    subst hg
    have HS5 := Lib.hid (show sopen T ps = sread3 T n a lo (rpart ra) by rw [HS4.out]; unfold sread2; rw [if_neg (by simp)])
    clear HS4
    go_wp2_with fail
    refine (must_ok _).mono ?_; rintro e1 w10 ⟨rfl, hq⟩
    subst hq
    clear q4
    have hral := HRAL.out
    obtain ⟨⟨y, rest, ey⟩, hpy⟩ : ∃ x, x = rpart ra := ⟨_, rfl⟩
    rw [← hpy] at HS5
    by_cases he : (rpart ra).2.2 = 0
    case neg =>
      have HR := Lib.hid (show sopen T ps = segErr (rpart ra).2.2 by rw [HS5.out]; unfold sread3; rw [if_pos (by rw [hpy]; exact he), hpy])
      have HN := Lib.hid (part_err R A8 ra c8 w9 HX9.out hral he)
      clear he hpy
      go_wp2_with fail
      refine HN.out.mono ?_; rintro e w10 ⟨rfl, hb10, _⟩
      rw [HR.out]
      exact door_pan HP.out rfl ⟨rfl, rfl, rfl, rfl, rfl⟩ (HF9.out.below hb10 HRP.out) (HB9.out.trans (hb10.mono (by have := HRP.out; omega)))
    have HNa := part_ok R A8 ra c8 w9 HX9.out hral he
    have HS6 := Lib.hid (show sopen T ps = sread4 T n a y lo rest (rget T y) by rw [HS5.out]; unfold sread3; rw [if_neg (by rw [hpy]; simp [he])])
    have hle := rpart_le ra
    unfold PartOk at HNa
    rw [← hpy] at HNa hle
    dsimp only at HNa hle
    have HN := Lib.hid HNa
    have hyl : y.length ≤ 4000000000 := by omega
    have HLE2 := Lib.hid (show rest.length ≤ b.length ∧ y.length ≤ b.length by have := HLE.out; have := HRL.out; omega)
    clear HNa hle hpy he HS5 hral hrl
    go_wp2_with fail
    refine HN.out.mono ?_; rintro e w10 ⟨A10, c10, A11, c11, rfl, ra10, hc10, hx10, hg10⟩
    have hb10 := box_below hg10 (by omega)
    have HB10 := Lib.hid (HB9.out.trans (hb10.mono (by have := HRP.out; omega)))
    have HF10 := Lib.hid (HF9.out.below hb10 HRP.out)
    have HA10 := Lib.hid (HA9.out.below hb10)
    have HO10 := Lib.hid (own_box HO9.out hg10 (by omega))
    have HX10 := Lib.hid hx10
    have HY10 := Lib.hid ra10
    have hR10 : R < w10.heap.size := HX10.out.1.lt
    have KGa := Rw.Get_row w10.heap.size A A10 c c10 T y w10 (HRT.out w10 HB10.out) (HY10.out.more (by omega)) (Nat.le_refl _) hc10 (by omega) (by omega)
    obtain ⟨⟨hi, eh⟩, hgl⟩ : ∃ x, x = rget T y := ⟨_, rfl⟩
    rw [← hgl] at KGa HS6
    have HGH := Lib.hid hgl
    have KG := Lib.hid KGa
    clear KGa hgl hb10 hx10 ra10 hg10 HN hR9 HF9 HB9 HX9 HA9 HO9
    go_wp2_with fail
    refine KG.out.mono ?_; rintro e w11 ⟨A12, c12, rfl, own12, hb11⟩
    have HF11 := Lib.hid (HF10.out.below hb11 HF10.out.lt)
    have HB11 := Lib.hid (HB10.out.trans (hb11.mono (by have := HF10.out.lt; omega)))
    have hb11R := hb11.mono (B' := R + 1) (by omega)
    have HX11 := Lib.hid (show rdr w11 R A11 rest c11 from ⟨boxed_bel HX10.out.1 hb11R (by omega), HX10.out.2.1.below (hb11R.mono (by omega)), HX10.out.2.2⟩)
    have HA11 := Lib.hid (show Rd w11 R A7 (cells a) from HA10.out.below (hb11R.mono (by omega)))
    have HY11 := Lib.hid (show Rd w11 R A10 (cells y) from HY10.out.below (hb11R.mono (by omega)))
    have HO11 := Lib.hid (own_bel HO10.out hb11)
    have HH11 := Lib.hid (own_lower own12 (show R + 1 ≤ w10.heap.size by omega))
    have hR11 : R < w11.heap.size := HX11.out.1.lt
    obtain ⟨b0, b1, b2, b3, b4⟩ := HF11.out
    have q3 := b3.cell
    have z3 := b3.frozen
    have q4 := b4.cell
    have z4 := b4.frozen
    clear b0 b1 b2 b3 b4 own12 hb11 hb11R KG HF10 HB10 HX10 HA10 HO10 HY10
    go_upto_region 23 with fail
    obtain ⟨w12, hw12⟩ : ∃ w12, w12 = (w11.setCell ⟨P + 3, 0, none⟩ (.slice A12 hi.length c12)).setCell ⟨P + 4, 0, none⟩ (.int .i64 (eh : Int)) := ⟨_, rfl⟩
    have HF12 := Lib.hid (show Five w12 P (.slice none 0 0) (.int .i64 (n : Int)) (.slice A9 lo.length c9) (.slice A12 hi.length c12) (.int .i64 (eh : Int)) from by rw [hw12]; exact (HF11.out.set3 _).set4 _)
    have HB12 := Lib.hid (show Below P w w12 from by rw [hw12]; exact (HB11.out.setCell (p := ⟨P + 3, 0, none⟩) (by simp) _).setCell (p := ⟨P + 4, 0, none⟩) (by simp) _)
    have HX12 := Lib.hid (show rdr w12 R A11 rest c11 from by rw [hw12]; exact rdr_box _ (rdr_box _ HX11.out HF11.out.2.2.2.1 (by simp) (by have := HRP.out; omega)) (HF11.out.set3 _).2.2.2.2 (by simp) (by have := HRP.out; omega))
    have HA12 := Lib.hid (show Rd w12 R A7 (cells a) from by rw [hw12]; exact rd_box _ (rd_box _ HA11.out HF11.out.2.2.2.1 (by simp)) (HF11.out.set3 _).2.2.2.2 (by simp))
    have HY12 := Lib.hid (show Rd w12 R A10 (cells y) from by rw [hw12]; exact rd_box _ (rd_box _ HY11.out HF11.out.2.2.2.1 (by simp)) (HF11.out.set3 _).2.2.2.2 (by simp))
    have HO12 := Lib.hid (show w12.ownsRow (R + 1) 46 3 (.slice A9 lo.length c9) lo.length (vcells lo) from by rw [hw12]; exact own_box (own_box HO11.out (grown_set _ _ _ _) (by have := HRP.out; omega)) (grown_set _ _ _ _) (by have := HRP.out; omega))
    have HH12 := Lib.hid (show w12.ownsRow (R + 1) 46 3 (.slice A12 hi.length c12) hi.length (vcells hi) from by rw [hw12]; exact own_box (own_box HH11.out (grown_set _ _ _ _) (by have := HRP.out; omega)) (grown_set _ _ _ _) (by have := HRP.out; omega))
    rw [← hw12]
    have hR12 : R < w12.heap.size := HX12.out.1.lt
    clear hw12 q3 z3 q4 z4 HF11 HB11 HX11 HA11 HO11 HY11 HH11 hR11 hR10
    obtain ⟨b0, b1, b2, b3, b4⟩ := HF12.out
    have q4 := b4.cell
    clear b0 b1 b2 b3 b4
    by_cases hg : eh = 0
    case neg =>
      have HR := Lib.hid (show sopen T ps = segErr eh by rw [HS6.out]; unfold sread4; rw [if_pos hg])
      go_wp2_with fail
      refine (must_err eh hg _).mono ?_; rintro e1 w13 ⟨rfl, hq⟩
      subst hq
      rw [HR.out]
      exact door_pan HP.out rfl ⟨rfl, rfl, rfl, rfl, rfl⟩ HF12.out HB12.out
    subst hg
    have HS7 := Lib.hid (show sopen T ps = sread5 T n a y lo hi (rcols n T [] rest) by rw [HS6.out]; unfold sread4; rw [if_neg (by simp)])
    clear HS6
    go_wp2_with fail
    refine (must_ok _).mono ?_; rintro e1 w13 ⟨rfl, hq⟩
    subst hq
    clear q4
    have hl9 := HLE2.out.1
    go_wp2_with fail
    go_loopw [98] (fun v98 wr => ∃ (k : Nat) (acc : List (List V)) (A3 : Option Addr) (c3 : Nat) (bs : List UInt8) (A5 : Option Addr) (c5 : Nat), k ≤ T.length ∧ v98 = .int .i64 k ∧ acc.length = k ∧
        Five wr P (.slice A3 acc.length c3) (.int .i64 (n : Int)) (.slice A9 lo.length c9) (.slice A12 hi.length c12) (.int .i64 ((0 : Nat) : Int)) ∧ Below P w wr ∧ rdr wr R A5 bs c5 ∧ bs.length ≤ b.length ∧
        Rd wr R A7 (cells a) ∧ Rd wr R A10 (cells y) ∧ wr.ownsRow (R + 1) 46 3 (.slice A9 lo.length c9) lo.length (vcells lo) ∧ wr.ownsRow (R + 1) 46 3 (.slice A12 hi.length c12) hi.length (vcells hi) ∧
        OwnVV wr (R + 1) (.slice A3 acc.length c3) acc ∧ (∀ l ∈ acc, l.length ≤ 65536 ∧ ∀ v ∈ l, vsm v) ∧ rcols n T [] rest = rcols n (T.drop k) acc bs) (fun v98 _ => T.length - (intOf v98).toNat)
    case atStart => exact ⟨0, [], none, 0, rest, A11, c11, by omega, rfl, rfl, HF12.out, HB12.out, HX12.out, hl9, HA12.out, HY12.out, HO12.out, HH12.out, OwnN.nil _ _, by simp, by rw [List.drop_zero]⟩
    case round =>
      obtain ⟨k, acc, A3, c3, bs, A5, c5, hk, rfl, hak, hF, hB, hX, hbs, hA, hY, hO, hH, hC, hok, hrc⟩ := hrel
      have HAK := Lib.hid hak
      have HF := Lib.hid hF
      have HB := Lib.hid hB
      have HX := Lib.hid hX
      have HA := Lib.hid hA
      have HY := Lib.hid hY
      have HO := Lib.hid hO
      have HH := Lib.hid hH
      have HC := Lib.hid hC
      have HOK := Lib.hid hok
      have HRC := Lib.hid hrc
      have hRw : R < wr.heap.size := HX.out.1.lt
      clear hak hF hB hX hA hY hO hH hC hok hrc HF12 HB12 HX12 HA12 HY12 HO12 HH12
      by_cases hlt : k < T.length
      case pos =>
        obtain ⟨t, ht⟩ : ∃ t, T[k]? = some t := ⟨_, List.getElem?_eq_getElem hlt⟩
        have hrc := HRC.out
        rw [rcols_at ht] at hrc
        obtain ⟨gt, ot, hgA, hgt, t0⟩ := rd_byte (HRT.out w (Below.refl _ _)) ht
        subst hgA
        have hgP : gt < P := by have := HP.out; omega
        have F1 : ∀ w', Below P w w' → w'.cell? ⟨gt, ot + k, none⟩ = some (.int .u8 (t.toNat : Int)) := fun w' h => (h.cell (p := ⟨gt, ot + k, none⟩) hgP).trans t0
        have hkI : (k : Int) < (T.length : Int) := by omega
        have hbl : bs.length ≤ 4000000000 := by have := HLL.out; omega
        have q1 := HF.out.2.1.cell
        clear ht t0 HRC
        by_cases he : (rpart bs).2.2 = 0
        case neg =>
          have HR := Lib.hid (show sopen T ps = segErr (rpart bs).2.2 by rw [HS7.out, hrc, if_pos he]; unfold sread5; rw [if_pos he])
          have HN := Lib.hid (part_err R A5 bs c5 wr.drew ⟨HX.out.1, HX.out.2.1, HX.out.2.2⟩ hbl he)
          have hFd : Five wr.drew P (.slice A3 acc.length c3) (.int .i64 (n : Int)) (.slice A9 lo.length c9) (.slice A12 hi.length c12) (.int .i64 ((0 : Nat) : Int)) := HF.out
          have HFd := Lib.hid hFd
          clear hrc he hFd
          go_wp2_with fail
          refine ah_start 13 (fun w' => Below P w w' ∧ w'.cell? ⟨P + 1, 0, none⟩ = some (.int .i64 (n : Int))) rfl (by kernel_rfl) ⟨HB.out.drew, q1⟩ ?_ ; intro hS
          clear q1
          (refine mv_val 0 (v := ?_) rfl (by kernel_rfl) (by kernel_rfl) (by kernel_rfl) (by intro c a w h; exact pan_put (by decide) h) (by rfl) hS ?_ ?_; rotate_left; (focus (intro w hSw; (try dsimp only at hSw); (have f1 := F1 w hSw.1; have f2 := hSw.2; have f3 := hlt; have f4 := hkI); go_simp; first | done | with_reducible rfl)); simp only [Act.put, List.setIfInBounds_toArray, List.set_cons_zero, List.set_cons_succ])
          (refine mv_val 1 (v := ?_) rfl (by kernel_rfl) (by kernel_rfl) (by kernel_rfl) (by intro c a w h; exact pan_put (by decide) h) (by rfl) hS ?_ ?_; rotate_left; (focus (intro w hSw; (try dsimp only at hSw); (have f1 := F1 w hSw.1; have f2 := hSw.2; have f3 := hlt; have f4 := hkI); go_simp; first | done | with_reducible rfl)); simp only [Act.put, List.setIfInBounds_toArray, List.set_cons_zero, List.set_cons_succ])
          (refine mv_val 2 (v := ?_) rfl (by kernel_rfl) (by kernel_rfl) (by kernel_rfl) (by intro c a w h; exact pan_put (by decide) h) (by rfl) hS ?_ ?_; rotate_left; (focus (intro w hSw; (try dsimp only at hSw); (have f1 := F1 w hSw.1; have f2 := hSw.2; have f3 := hlt; have f4 := hkI); go_simp; first | done | with_reducible rfl)); simp only [Act.put, List.setIfInBounds_toArray, List.set_cons_zero, List.set_cons_succ])
          (refine mv_val 3 (v := ?_) rfl (by kernel_rfl) (by kernel_rfl) (by kernel_rfl) (by intro c a w h; exact pan_put (by decide) h) (by rfl) hS ?_ ?_; rotate_left; (focus (intro w hSw; (try dsimp only at hSw); (have f1 := F1 w hSw.1; have f2 := hSw.2; have f3 := hlt; have f4 := hkI); go_simp; first | done | with_reducible rfl)); simp only [Act.put, List.setIfInBounds_toArray, List.set_cons_zero, List.set_cons_succ])
          (refine mv_val 4 (v := ?_) rfl (by kernel_rfl) (by kernel_rfl) (by kernel_rfl) (by intro c a w h; exact pan_put (by decide) h) (by rfl) hS ?_ ?_; rotate_left; (focus (intro w hSw; (try dsimp only at hSw); (have f1 := F1 w hSw.1; have f2 := hSw.2; have f3 := hlt; have f4 := hkI); go_simp; first | done | with_reducible rfl)); simp only [Act.put, List.setIfInBounds_toArray, List.set_cons_zero, List.set_cons_succ])
          (refine mv_val 6 (v := ?_) rfl (by kernel_rfl) (by kernel_rfl) (by kernel_rfl) (by intro c a w h; exact pan_put (by decide) h) (by rfl) hS ?_ ?_; rotate_left; (focus (intro w hSw; (try dsimp only at hSw); (have f1 := F1 w hSw.1; have f2 := hSw.2; have f3 := hlt; have f4 := hkI); go_simp; first | done | with_reducible rfl)); simp only [Act.put, List.setIfInBounds_toArray, List.set_cons_zero, List.set_cons_succ])
          (refine mv_callp 5 (f := ?_) (args := ?_) rfl (by kernel_rfl) (by rfl) ?_ ?_; rotate_left 2; (focus (go_simp; first | done | with_reducible rfl | (refine ⟨?_, ?_⟩ <;> with_reducible rfl))))
          refine HN.out.mono ?_; rintro e w5 ⟨rfl, hb5, _⟩
          refine .inr ⟨_, rfl, ?_⟩
          exact door_panS HR.out HP.out rfl ⟨rfl, rfl, rfl, rfl, rfl⟩ (HFd.out.below hb5 HRP.out) (hS.1.trans (hb5.mono (by have := HRP.out; omega)))
        have HNa := part_ok R A5 bs c5 wr.drew ⟨HX.out.1, HX.out.2.1, HX.out.2.2⟩ hbl he
        have hle := rpart_le bs
        rw [if_neg (by simp [he])] at hrc
        unfold PartOk at HNa
        obtain ⟨⟨p, bs2, ep⟩, hpp⟩ : ∃ x, x = rpart bs := ⟨_, rfl⟩
        rw [← hpp] at HNa hle hrc
        dsimp only at HNa hle hrc
        have HN := Lib.hid HNa
        have hpl : p.length ≤ b.length ∧ bs2.length ≤ b.length := by omega
        have hpm : p.length ≤ 1000000 := by have := HLL.out; omega
        have hFd : Five wr.drew P (.slice A3 acc.length c3) (.int .i64 (n : Int)) (.slice A9 lo.length c9) (.slice A12 hi.length c12) (.int .i64 ((0 : Nat) : Int)) := HF.out
        have HFd := Lib.hid hFd
        obtain ⟨⟨l, ec⟩, hcl⟩ : ∃ x, x = cget t p (n : Int) := ⟨_, rfl⟩
        have HCL := Lib.hid hcl
        rw [← hcl] at hrc
        have HRC := Lib.hid hrc
        clear HNa hpp he hrc hle hFd hcl
        go_wp2_with fail
        refine ah_start 13 (fun w' => Below P w w' ∧ w'.cell? ⟨P + 1, 0, none⟩ = some (.int .i64 (n : Int))) rfl (by kernel_rfl) ⟨HB.out.drew, q1⟩ ?_ ; intro hS
        clear q1
        (refine mv_val 0 (v := ?_) rfl (by kernel_rfl) (by kernel_rfl) (by kernel_rfl) (by intro c a w h; exact pan_put (by decide) h) (by rfl) hS ?_ ?_; rotate_left; (focus (intro w hSw; (try dsimp only at hSw); (have f1 := F1 w hSw.1; have f2 := hSw.2; have f3 := hlt; have f4 := hkI); go_simp; first | done | with_reducible rfl)); simp only [Act.put, List.setIfInBounds_toArray, List.set_cons_zero, List.set_cons_succ])
        (refine mv_val 1 (v := ?_) rfl (by kernel_rfl) (by kernel_rfl) (by kernel_rfl) (by intro c a w h; exact pan_put (by decide) h) (by rfl) hS ?_ ?_; rotate_left; (focus (intro w hSw; (try dsimp only at hSw); (have f1 := F1 w hSw.1; have f2 := hSw.2; have f3 := hlt; have f4 := hkI); go_simp; first | done | with_reducible rfl)); simp only [Act.put, List.setIfInBounds_toArray, List.set_cons_zero, List.set_cons_succ])
        (refine mv_val 2 (v := ?_) rfl (by kernel_rfl) (by kernel_rfl) (by kernel_rfl) (by intro c a w h; exact pan_put (by decide) h) (by rfl) hS ?_ ?_; rotate_left; (focus (intro w hSw; (try dsimp only at hSw); (have f1 := F1 w hSw.1; have f2 := hSw.2; have f3 := hlt; have f4 := hkI); go_simp; first | done | with_reducible rfl)); simp only [Act.put, List.setIfInBounds_toArray, List.set_cons_zero, List.set_cons_succ])
        (refine mv_val 3 (v := ?_) rfl (by kernel_rfl) (by kernel_rfl) (by kernel_rfl) (by intro c a w h; exact pan_put (by decide) h) (by rfl) hS ?_ ?_; rotate_left; (focus (intro w hSw; (try dsimp only at hSw); (have f1 := F1 w hSw.1; have f2 := hSw.2; have f3 := hlt; have f4 := hkI); go_simp; first | done | with_reducible rfl)); simp only [Act.put, List.setIfInBounds_toArray, List.set_cons_zero, List.set_cons_succ])
        (refine mv_val 4 (v := ?_) rfl (by kernel_rfl) (by kernel_rfl) (by kernel_rfl) (by intro c a w h; exact pan_put (by decide) h) (by rfl) hS ?_ ?_; rotate_left; (focus (intro w hSw; (try dsimp only at hSw); (have f1 := F1 w hSw.1; have f2 := hSw.2; have f3 := hlt; have f4 := hkI); go_simp; first | done | with_reducible rfl)); simp only [Act.put, List.setIfInBounds_toArray, List.set_cons_zero, List.set_cons_succ])
        (refine mv_val 6 (v := ?_) rfl (by kernel_rfl) (by kernel_rfl) (by kernel_rfl) (by intro c a w h; exact pan_put (by decide) h) (by rfl) hS ?_ ?_; rotate_left; (focus (intro w hSw; (try dsimp only at hSw); (have f1 := F1 w hSw.1; have f2 := hSw.2; have f3 := hlt; have f4 := hkI); go_simp; first | done | with_reducible rfl)); simp only [Act.put, List.setIfInBounds_toArray, List.set_cons_zero, List.set_cons_succ])
        (refine mv_callp 5 (f := ?_) (args := ?_) rfl (by kernel_rfl) (by rfl) ?_ ?_; rotate_left 2; (focus (go_simp; first | done | with_reducible rfl | (refine ⟨?_, ?_⟩ <;> with_reducible rfl))))
        refine HN.out.mono ?_; rintro e w5 ⟨A6, c6, Aq, cq, rfl, rp5, hcp, hx5, hg5⟩
        have hb5 : Below R wr.drew w5 := box_below hg5 (by show R ≤ wr.heap.size; omega)
        have HG5 := Lib.hid hg5
        have HX5 := Lib.hid hx5
        have HF5 := Lib.hid (HFd.out.below hb5 HRP.out)
        have hS5 : Below P w w5 ∧ w5.cell? ⟨P + 1, 0, none⟩ = some (.int .i64 (n : Int)) := ⟨hS.1.trans (hb5.mono (by have := HRP.out; omega)), HF5.out.2.1.cell⟩
        have hR5 : R < w5.heap.size := HX5.out.1.lt
        have KCa := cget_any w5.heap.size A6 c6 t p (n : Int) w5 (rp5.more (by omega)) hcp (Nat.le_refl _) ⟨by omega, by omega⟩ (by omega) (fun _ _ => Nat.le_trans (Nat.mul_le_mul (Nat.le_refl _) (by omega)) HNS.out)
        rw [← HCL.out] at KCa
        have KC := Lib.hid KCa
        refine .inl ⟨_, rfl, hS5, ?_⟩
        replace hS := hS5
        clear hS5 KCa hg5 hx5 rp5
        simp only [Act.put, List.setIfInBounds_toArray, List.set_cons_zero, List.set_cons_succ]
        (refine mv_call 7 (f := ?_) (args := ?_) rfl (by kernel_rfl) (by rfl) ?_ ?_; rotate_left 2; (focus (go_simp; first | done | with_reducible rfl | (refine ⟨?_, ?_⟩ <;> with_reducible rfl))))
        refine KC.out.mono ?_; rintro e w6 ⟨A8, c8, rfl, own6, hb6⟩
        have HF6 := Lib.hid (HF5.out.below hb6 HF5.out.lt)
        have hS6 : Below P w w6 ∧ w6.cell? ⟨P + 1, 0, none⟩ = some (.int .i64 (n : Int)) := ⟨hS.1.trans (hb6.mono (by have := HRP.out; omega)), HF6.out.2.1.cell⟩
        refine ⟨_, rfl, hS6, ?_⟩
        replace hS := hS6
        clear hS6
        have hb6R := hb6.mono (B' := R + 1) (by omega)
        have HL6 := Lib.hid own6
        have HX6 := Lib.hid (show rdr w6 R Aq bs2 cq from ⟨boxed_bel HX5.out.1 hb6R (by omega), HX5.out.2.1.below (hb6R.mono (by omega)), HX5.out.2.2⟩)
        have HA6 := Lib.hid (show Rd w6 R A7 (cells a) from ((show Rd wr.drew R A7 (cells a) from HA.out).below hb5).below (hb6R.mono (by omega)))
        have HY6 := Lib.hid (show Rd w6 R A10 (cells y) from ((show Rd wr.drew R A10 (cells y) from HY.out).below hb5).below (hb6R.mono (by omega)))
        have HO6 := Lib.hid (own_bel (own_box (w := wr.drew) HO.out HG5.out (by omega)) hb6)
        have HH6 := Lib.hid (own_bel (own_box (w := wr.drew) HH.out HG5.out (by omega)) hb6)
        have HC5 := Lib.hid (OwnN.box (w := wr.drew) HC.out HG5.out (by omega))
        have HB6 := Lib.hid hb6
        clear own6 hb6R HA HY HO HH HC HG5 HX5 HFd hb5 hb6
        simp only [Act.put, List.setIfInBounds_toArray, List.set_cons_zero, List.set_cons_succ]
        (refine mv_val 8 (v := ?_) rfl (by kernel_rfl) (by kernel_rfl) (by kernel_rfl) (by intro c a w h; exact pan_put (by decide) h) (by rfl) hS ?_ ?_; rotate_left; (focus (intro w hSw; (try dsimp only at hSw); (have f1 := F1 w hSw.1; have f2 := hSw.2; have f3 := hlt; have f4 := hkI); go_simp; first | done | with_reducible rfl)); simp only [Act.put, List.setIfInBounds_toArray, List.set_cons_zero, List.set_cons_succ])
        (refine mv_val 9 (v := ?_) rfl (by kernel_rfl) (by kernel_rfl) (by kernel_rfl) (by intro c a w h; exact pan_put (by decide) h) (by rfl) hS ?_ ?_; rotate_left; (focus (intro w hSw; (try dsimp only at hSw); (have f1 := F1 w hSw.1; have f2 := hSw.2; have f3 := hlt; have f4 := hkI); go_simp; first | done | with_reducible rfl)); simp only [Act.put, List.setIfInBounds_toArray, List.set_cons_zero, List.set_cons_succ])
        (refine mv_val 10 (v := ?_) rfl (by kernel_rfl) (by kernel_rfl) (by kernel_rfl) (by intro c a w h; exact pan_put (by decide) h) (by rfl) hS ?_ ?_; rotate_left; (focus (intro w hSw; (try dsimp only at hSw); (have f1 := F1 w hSw.1; have f2 := hSw.2; have f3 := hlt; have f4 := hkI); go_simp; first | done | with_reducible rfl)); simp only [Act.put, List.setIfInBounds_toArray, List.set_cons_zero, List.set_cons_succ])
        (refine mv_val 11 (v := ?_) rfl (by kernel_rfl) (by kernel_rfl) (by kernel_rfl) (by intro c a w h; exact pan_put (by decide) h) (by rfl) hS ?_ ?_; rotate_left; (focus (intro w hSw; (try dsimp only at hSw); (have f1 := F1 w hSw.1; have f2 := hSw.2; have f3 := hlt; have f4 := hkI); go_simp; first | done | with_reducible rfl)); simp only [Act.put, List.setIfInBounds_toArray, List.set_cons_zero, List.set_cons_succ])
        (refine mv_val 12 (v := ?_) rfl (by kernel_rfl) (by kernel_rfl) (by kernel_rfl) (by intro c a w h; exact pan_put (by decide) h) (by rfl) hS ?_ ?_; rotate_left; (focus (intro w hSw; (try dsimp only at hSw); (have f1 := F1 w hSw.1; have f2 := hSw.2; have f3 := hlt; have f4 := hkI); go_simp; first | done | with_reducible rfl)); simp only [Act.put, List.setIfInBounds_toArray, List.set_cons_zero, List.set_cons_succ])
        refine wpAnyH_done (by kernel_rfl) ?_ _
        by_cases hec : ec = 0
        case neg =>
          have HR := Lib.hid (show sopen T ps = segErr ec by rw [HS7.out, HRC.out, if_pos hec]; unfold sread5; rw [if_pos hec])
          go_wp2_with fail
          refine (must_err ec hec _).mono ?_; rintro e1 w7 ⟨rfl, hq⟩
          subst hq
          exact door_panS HR.out HP.out rfl ⟨rfl, rfl, rfl, rfl, rfl⟩ HF6.out hS.1
        subst hec
        obtain ⟨k1, k2⟩ := (show l.length ≤ 65536 ∧ ∀ v ∈ l, vsm v from by have h := cgot_ok (t := t) (p := p) (n := (n : Int)) hpm; rw [← HCL.out] at h; exact h)
        have HRC2 := Lib.hid (show rcols n T [] rest = rcols n (T.drop (k + 1)) (acc ++ [l]) bs2 from by rw [HRC.out, if_neg (by simp)])
        have HK2 := Lib.hid k2
        clear HRC HCL k2 KC HN
        go_wp2_with fail
        refine (must_ok _).mono ?_; rintro e1 w7 ⟨rfl, hq⟩
        subst hq
        have q0 := HF6.out.1.cell
        obtain ⟨ss, own7, hssl, happ⟩ := OwnN.app (s := (A8, l.length, c8)) (b := l) (by decide) HC5.out HB6.out (by omega) rfl HL6.out (.cells #[.slice A8 l.length c8] 37)
        have HAPP := Lib.hid happ
        have HSSL := Lib.hid hssl
        have hssm : ss.length ≤ 1000 := by have := HAK.out; omega
        have hR6 : R < w6.heap.size := HX6.out.1.lt
        have hbx : Below (R + 1) w6 (w6.alloc (.cells #[.slice A8 l.length c8] 37)) := (Below.refl (R + 1) w6).alloc (by omega) _
        clear happ hssl
        go_upto_region 29 with fail
        go_wp2_with (at_builtin; (refine wpList_app El_vs rfl _ _ rfl own7 rfl rfl (by exact rd_one _ _ _ _ _ rfl (Nat.lt_add_one _)) rfl (by intro u hu; simp at hu; subst hu; rfl) (by unfold maxLen; omega) (by omega) (by simp; omega) ?_; intro v7 w8 hown8 hg8 _; obtain ⟨Av, cv, rfl, hcv⟩ := own_form hown8; have hb8 := hbx.trans (own_below own7 hg8 (by simp; omega)); have HF8 := Lib.hid (HF6.out.below hb8 (by have := HRP.out; omega)); have q8 := HF8.out.1.cell; have z8 := HF8.out.1.frozen))
        have hlen : ss.length + 1 = (acc ++ [l]).length := by simp [HSSL.out]
        have HX8 := Lib.hid (show rdr w8 R Aq bs2 cq from ⟨boxed_bel HX6.out.1 hb8 (by omega), HX6.out.2.1.below (hb8.mono (by omega)), HX6.out.2.2⟩)
        have HA8 := Lib.hid (show Rd w8 R A7 (cells a) from HA6.out.below (hb8.mono (by omega)))
        have HY8 := Lib.hid (show Rd w8 R A10 (cells y) from HY6.out.below (hb8.mono (by omega)))
        have HO8 := Lib.hid (own_grown (HO6.out.alloc _) hg8 (Ap.ne (own_type (HO6.out.alloc _) own7 (by decide))))
        have HH8 := Lib.hid (own_grown (HH6.out.alloc _) hg8 (Ap.ne (own_type (HH6.out.alloc _) own7 (by decide))))
        have HC8 := Lib.hid (HAPP.out w8 _ hown8 hg8)
        have HB8 := Lib.hid (show Below P w w8 from hS.1.trans (hb8.mono (by have := HRP.out; omega)))
        clear hb8 own7 hown8 hg8 hbx HAPP HC5 HO6 HH6 HX6 HA6 HY6 HF6
        go_roundw
        case rel =>
          have hPR : P < R + 1 := by have := HRP.out; omega
          refine ⟨k + 1, acc ++ [l], Av, cv, bs2, Aq, cq, by omega, by go_num, by rw [List.length_append, HAK.out]; rfl, ?_, HB8.out.setCell (p := ⟨P, 0, none⟩) (Nat.le_refl _) _, ?_, hpl.2, ?_, ?_, ?_, ?_, ?_, ?_, HRC2.out⟩
          · rw [← hlen]; exact HF8.out.set0 _
          · exact rdr_box _ HX8.out HF8.out.1 (by simp) (by have := HRP.out; omega)
          · exact rd_box _ HA8.out HF8.out.1 (by simp)
          · exact rd_box _ HY8.out HF8.out.1 (by simp)
          · exact own_box HO8.out (grown_set _ _ _ _) hPR
          · exact own_box HH8.out (grown_set _ _ _ _) hPR
          · have h := OwnN.box HC8.out (grown_set w8 P 0 (.slice Av (ss.length + 1) cv)) hPR
            rw [← hlen]; exact h
          · intro l' hl'
            rcases List.mem_append.1 hl' with h | h
            · exact HOK.out l' h
            · simp at h; rw [h]; exact ⟨k1, HK2.out⟩
        case measure => simp [intOf]; omega
      have hge : (T.length : Int) ≤ (k : Int) := by omega
      have hkT : k = T.length := by omega
      have HE := Lib.hid (show rcols n T [] rest = (acc, bs, 0) by rw [HRC.out, hkT, List.drop_length]; rfl)
      have haT : acc.length = T.length := by rw [HAK.out, hkT]
      have q0 := HF.out.1.cell
      have hvv := least_vsm (fun l hl => (HOK.out l hl).2)
      have hll := least_length acc
      have hgl := greatest_length acc
      have s1 := rbytes_le 1000000 (least acc) (fun v hv => (hvv.1 v hv).2) (by omega)
      have s2 := rbytes_le 1000000 (greatest acc) (fun v hv => (hvv.2 v hv).2) (by omega)
      have KB := Lib.hid (sbounds_any wr.heap.size A A3 c c3 T acc wr (HRT.out wr HB.out) HC.out.rd (Nat.le_refl _) (by omega) (by omega) (fun l hl => ⟨by have := (HOK.out l hl).1; omega, (HOK.out l hl).2⟩) (by omega) (by omega))
      have hrl : ∀ l : List V, (rput T l).1.length ≤ (rbytes l).length := fun l => by unfold rput; split <;> simp
      have hx1 := hrl (least acc)
      have hu1 := hrl (greatest acc)
      obtain ⟨x, hx⟩ : ∃ x, x = (rput T (least acc)).1 := ⟨_, rfl⟩
      obtain ⟨u, hu⟩ : ∃ u, u = (rput T (greatest acc)).1 := ⟨_, rfl⟩
      rw [← hx, ← hu] at KB
      have HSF := Lib.hid (show sopen T ps = if bs ≠ [] ∨ x ≠ a ∨ u ≠ y then segErr 21 else ⟨acc, n, lo, hi, 0⟩ by rw [HS7.out, HE.out]; unfold sread5; rw [if_neg (by simp), hx, hu])
      have hxu : x.length ≤ maxLen ∧ u.length ≤ maxLen := by rw [hx, hu]; unfold maxLen; omega
      clear hx hu s1 s2 hll hgl hvv hkT HRC HE HS7 hrl hx1 hu1 haT
      go_wp2_with fail
      refine KB.out.mono ?_; rintro e w13 ⟨Ax, cx, Au, cu, rfl, rx, ru, _, hb13⟩
      have hbR := hb13.mono (B' := R + 1) (by omega)
      have HF13 := Lib.hid (HF.out.below hb13 HF.out.lt)
      have HX13 := Lib.hid (show rdr w13 R A5 bs c5 from ⟨boxed_bel HX.out.1 hbR (by omega), HX.out.2.1.below (hbR.mono (by omega)), HX.out.2.2⟩)
      have HA13 := Lib.hid (HA.out.below (hbR.mono (by omega)))
      have HY13 := Lib.hid (HY.out.below (hbR.mono (by omega)))
      have HD13 := Lib.hid (show Done w P R n acc lo hi A3 A9 A12 c3 c9 c12 w13 from ⟨HF13.out, HB.out.trans (hb13.mono (by have := HRP.out; omega)), HRP.out, HC.out.below hb13, own_bel HO.out hb13, own_bel HH.out hb13⟩)
      have RX := Lib.hid rx
      have RU := Lib.hid ru
      have qR := HX13.out.1.cell
      have hR13 : R < w13.heap.size := HX13.out.1.lt
      clear hbR hb13 KB HF HX HA HY HO HH HC rx ru q0
      by_cases hb0 : bs = []
      case neg =>
        have hpos : (0 : Int) < (bs.length : Int) := by have := List.length_pos_iff.2 hb0; omega
        have hpos2 : 0 < bs.length := by omega
        have HR := Lib.hid (HSF.out.trans (if_pos (.inl hb0)))
        go_wp2_with fail
        refine (must_err 21 (by omega) _).mono ?_; rintro e1 w14 ⟨rfl, hq⟩
        subst hq
        rw [HR.out]
        exact door_pan HP.out rfl ⟨rfl, rfl, rfl, rfl, rfl⟩ HF13.out HD13.out.2.1
      subst hb0
      have KE := Lib.hid (equalB_any w13.heap.size Ax A7 cx c7 x a w13 RX.out (HA13.out.more (by omega)) (Nat.le_refl _) hxu.1)
      by_cases hxa : x = a
      case neg =>
        have HR := Lib.hid (HSF.out.trans (if_pos (.inr (.inl hxa))))
        have hd : decide (x = a) = false := by simp [hxa]
        rw [hd] at KE
        clear hxa hd
        go_wp2_with fail
        refine KE.out.mono ?_; rintro e w14 ⟨rfl, hb14⟩
        go_wp2_with fail
        refine (must_err 21 (by omega) _).mono ?_; rintro e1 w15 ⟨rfl, hq⟩
        subst hq
        rw [HR.out]
        exact door_pan HP.out rfl ⟨rfl, rfl, rfl, rfl, rfl⟩ (HF13.out.below hb14 HF13.out.lt) (HD13.out.2.1.trans (hb14.mono (by have := HRP.out; omega)))
      have hd : decide (x = a) = true := by simp [hxa]
      rw [hd] at KE
      have HXA := Lib.hid hxa
      clear hxa hd
      go_wp2_with fail
      refine KE.out.mono ?_; rintro e w14 ⟨rfl, hb14⟩
      have HF14 := Lib.hid (HF13.out.below hb14 HF13.out.lt)
      have HD14 := Lib.hid (show Done w P R n acc lo hi A3 A9 A12 c3 c9 c12 w14 from ⟨HF14.out, HD13.out.2.1.trans (hb14.mono (by have := HRP.out; omega)), HRP.out, HD13.out.2.2.2.1.below hb14, own_bel HD13.out.2.2.2.2.1 hb14, own_bel HD13.out.2.2.2.2.2 hb14⟩)
      have KF := Lib.hid (equalB_any w14.heap.size Au A10 cu c10 u y w14 (RU.out.next hb14) ((HY13.out.below (hb14.mono (by omega))).more (by have := hb14.size; omega)) (Nat.le_refl _) hxu.2)
      have hR14 : R < w14.heap.size := by have := hb14.size; omega
      clear KE hb14 HD13 HF13 qR
      by_cases huy : u = y
      case neg =>
        have HR := Lib.hid (HSF.out.trans (if_pos (.inr (.inr huy))))
        have hd : decide (u = y) = false := by simp [huy]
        rw [hd] at KF
        clear huy hd
        go_wp2_with fail
        refine KF.out.mono ?_; rintro e w15 ⟨rfl, hb15⟩
        go_wp2_with fail
        refine (must_err 21 (by omega) _).mono ?_; rintro e1 w16 ⟨rfl, hq⟩
        subst hq
        rw [HR.out]
        exact door_pan HP.out rfl ⟨rfl, rfl, rfl, rfl, rfl⟩ (HF14.out.below hb15 HF14.out.lt) (HD14.out.2.1.trans (hb15.mono (by have := HRP.out; omega)))
      have hd : decide (u = y) = true := by simp [huy]
      rw [hd] at KF
      have HR := Lib.hid (HSF.out.trans (if_neg (by rw [HXA.out, huy]; simp)))
      clear huy hd HSF HXA
      go_wp2_with fail
      refine KF.out.mono ?_; rintro e w15 ⟨rfl, hb15⟩
      have HF15 := Lib.hid (HF14.out.below hb15 HF14.out.lt)
      have hD : Done w P R n acc lo hi A3 A9 A12 c3 c9 c12 w15.drew := ⟨HF15.out, HD14.out.2.1.trans (hb15.drew.mono (by have := HRP.out; omega)), HRP.out, HD14.out.2.2.2.1.below hb15.drew, own_bel HD14.out.2.2.2.2.1 hb15.drew, own_bel HD14.out.2.2.2.2.2 hb15.drew⟩
      have HD := Lib.hid hD
      clear hD KF hb15 HD14 HF14 HF15
      go_wp2_with fail
      refine ah_start 9 (Done w P R n acc lo hi A3 A9 A12 c3 c9 c12) rfl (by kernel_rfl) HD.out ?_ ; intro hS
      (refine mv_val 0 (v := ?_) rfl (by kernel_rfl) (by kernel_rfl) (by kernel_rfl) (by intro c a w h; exact pan_put (by decide) h) (by rfl) hS ?_ ?_; rotate_left; (focus (intro w hSw; (try dsimp only at hSw); (have f0 := hSw.cells.1; have f1 := hSw.cells.2.1; have f2 := hSw.cells.2.2.1; have f3 := hSw.cells.2.2.2.1); go_simp; first | done | with_reducible rfl)); simp only [Act.put, List.setIfInBounds_toArray, List.set_cons_zero, List.set_cons_succ])
      (refine mv_val 1 (v := ?_) rfl (by kernel_rfl) (by kernel_rfl) (by kernel_rfl) (by intro c a w h; exact pan_put (by decide) h) (by rfl) hS ?_ ?_; rotate_left; (focus (intro w hSw; (try dsimp only at hSw); (have f0 := hSw.cells.1; have f1 := hSw.cells.2.1; have f2 := hSw.cells.2.2.1; have f3 := hSw.cells.2.2.2.1); go_simp; first | done | with_reducible rfl)); simp only [Act.put, List.setIfInBounds_toArray, List.set_cons_zero, List.set_cons_succ])
      (refine mv_val 2 (v := ?_) rfl (by kernel_rfl) (by kernel_rfl) (by kernel_rfl) (by intro c a w h; exact pan_put (by decide) h) (by rfl) hS ?_ ?_; rotate_left; (focus (intro w hSw; (try dsimp only at hSw); (have f0 := hSw.cells.1; have f1 := hSw.cells.2.1; have f2 := hSw.cells.2.2.1; have f3 := hSw.cells.2.2.2.1); go_simp; first | done | with_reducible rfl)); simp only [Act.put, List.setIfInBounds_toArray, List.set_cons_zero, List.set_cons_succ])
      (refine mv_val 3 (v := ?_) rfl (by kernel_rfl) (by kernel_rfl) (by kernel_rfl) (by intro c a w h; exact pan_put (by decide) h) (by rfl) hS ?_ ?_; rotate_left; (focus (intro w hSw; (try dsimp only at hSw); (have f0 := hSw.cells.1; have f1 := hSw.cells.2.1; have f2 := hSw.cells.2.2.1; have f3 := hSw.cells.2.2.2.1); go_simp; first | done | with_reducible rfl)); simp only [Act.put, List.setIfInBounds_toArray, List.set_cons_zero, List.set_cons_succ])
      have c0 := hS.cells.1; have z0 := hS.icy.1
      refine mv_step 4 rfl (by kernel_rfl) (by rfl) (fun K hK => ?_)
      go_simp
      refine eff_go hK ?_ ?_ <;> clear hK K
      · exact hS.put 0 (by omega) _ (hS.1.set0 _)
      clear hS c0 z0; intro hS
      try simp only [Act.put, List.setIfInBounds_toArray, List.set_cons_zero, List.set_cons_succ]
      have c1 := hS.cells.2.1; have z1 := hS.icy.2.1
      refine mv_step 5 rfl (by kernel_rfl) (by rfl) (fun K hK => ?_)
      go_simp
      refine eff_go hK ?_ ?_ <;> clear hK K
      · exact hS.put 1 (by omega) _ (hS.1.set1 _)
      clear hS c1 z1; intro hS
      try simp only [Act.put, List.setIfInBounds_toArray, List.set_cons_zero, List.set_cons_succ]
      have c2 := hS.cells.2.2.1; have z2 := hS.icy.2.2.1
      refine mv_step 6 rfl (by kernel_rfl) (by rfl) (fun K hK => ?_)
      go_simp
      refine eff_go hK ?_ ?_ <;> clear hK K
      · exact hS.put 2 (by omega) _ (hS.1.set2 _)
      clear hS c2 z2; intro hS
      try simp only [Act.put, List.setIfInBounds_toArray, List.set_cons_zero, List.set_cons_succ]
      have c3 := hS.cells.2.2.2.1; have z3 := hS.icy.2.2.2.1
      refine mv_step 7 rfl (by kernel_rfl) (by rfl) (fun K hK => ?_)
      go_simp
      refine eff_go hK ?_ ?_ <;> clear hK K
      · exact hS.put 3 (by omega) _ (hS.1.set3 _)
      clear hS c3 z3; intro hS
      try simp only [Act.put, List.setIfInBounds_toArray, List.set_cons_zero, List.set_cons_succ]
      have c4 := hS.cells.2.2.2.2; have z4 := hS.icy.2.2.2.2
      refine mv_step 8 rfl (by kernel_rfl) (by rfl) (fun K hK => ?_)
      go_simp
      refine eff_go hK ?_ ?_ <;> clear hK K
      · exact hS.put 4 (by omega) _ (hS.1.set4 _)
      clear hS c4 z4; intro hS
      try simp only [Act.put, List.setIfInBounds_toArray, List.set_cons_zero, List.set_cons_succ]
      refine wpAnyH_done (by kernel_rfl) ?_ _
      go_wp2_with fail
      rw [HR.out]
      exact door_ret HP.out rfl ⟨rfl, rfl, rfl, rfl, rfl⟩ hS.1 hS.2.2.2.1.rd (rd_own hS.2.2.2.2.1) (rd_own hS.2.2.2.2.2) hS.2.1
end Go.Proofs.Ythkpgjcnnfdibaa

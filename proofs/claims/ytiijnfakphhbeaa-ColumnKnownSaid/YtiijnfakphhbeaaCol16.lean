/- The walk of column.Bounds (layer 6). For texts of at most 1000000 bytes. -/
import Derived.Test.YtiijnfakphhbeaaCol15
import Derived.OneCell
import Derived.WalkMore
namespace Go.Proofs.Ytiijnfakphhbeaa
open Go.RowKit Go.Maps
set_option linter.unusedVariables false
set_option linter.unusedSimpArgs false

def bstep (p : V × V) (v : V) : V × V := if v.k = 0 then p else (if p.1.k = 0 ∨ lessB v p.1 = true then v else p.1, if p.2.k = 0 ∨ lessB p.2 v = true then v else p.2)
def bnds (l : List V) : V × V := l.foldl bstep (null, null)
theorem bnds_snoc {l : List V} {k : Nat} {v : V} (h : l[k]? = some v) : bnds (l.take (k + 1)) = bstep (bnds (l.take k)) v := by
  unfold bnds
  rw [List.take_add_one, h, List.foldl_append]; rfl
theorem three_other {w : World} {k j : Nat} {o : Obj} (h : w.heap[j]? = some o) (hne : j ≠ k) (x0 x1 x2 : Value) :
    (((w.setCell ⟨k, 0, none⟩ x0).setCell ⟨k, 1, none⟩ x1).setCell ⟨k, 2, none⟩ x2).heap[j]? = some o := by
  rw [heap_setCell_other _ _ _ _ hne, heap_setCell_other _ _ _ _ hne, heap_setCell_other _ _ _ _ hne]; exact h
theorem drew_heap (W : World) : W.drew.heap = W.heap := rfl
abbrev cells3 (v : V) : Obj := .cells #[.int .u8 (v.k : Int), .int .i64 v.n, txt v.t] 38 (0, 0)
theorem block_al {w : World} {k : Nat} {o : Obj} (h : w.heap[k]? = some o) (o' : Obj) : (w.alloc o').heap[k]? = some o := (Below.heap_alloc w o' k (lt_of_block h)).trans h

set_option maxHeartbeats 8000000 in
set_option maxRecDepth 100000 in
theorem bounds_any (B : Nat) (A : Option Addr) (c : Nat) (l : List V) (w : World) (hl : Rd w B A (vcells l)) (hB : B ≤ w.heap.size) (hll : l.length ≤ 4294967296) (hok : ∀ v ∈ l, vsm v) :
    Calls Try.prog 20 #[.slice A l.length c] w fun e w' => e = .returned (.tuple #[va (bnds l).1, va (bnds l).2]) ∧ Below w.heap.size w w' := by
  have HOK := Lib.hid hok
  clear hok
  go_enter Try.func20, Try.ntmps20
  go_wp2_with fail
  obtain ⟨w0, hw0⟩ : ∃ w0, w0 = (((w.alloc (cells3 null)).alloc (cells3 null)).alloc (cells3 null)).alloc (cells3 null) := ⟨_, rfl⟩
  have g0 : w0.heap[w.heap.size]? = some (cells3 null) := by rw [hw0]; exact block_al (block_al (block_al (heap_alloc_new w _) _) _) _
  have g1 : w0.heap[w.heap.size + 1]? = some (cells3 null) := by
    have h := block_al (block_al (heap_alloc_new (w.alloc (cells3 null)) (cells3 null)) (cells3 null)) (cells3 null)
    rw [World.size_alloc] at h; rw [hw0]; exact h
  have g2 : w0.heap[w.heap.size + 1 + 1]? = some (cells3 null) := by
    have h := block_al (heap_alloc_new ((w.alloc (cells3 null)).alloc (cells3 null)) (cells3 null)) (cells3 null)
    rw [World.size_alloc, World.size_alloc] at h; rw [hw0]; exact h
  have g3 : w0.heap[w.heap.size + 1 + 1 + 1]? = some (cells3 null) := by
    have h := heap_alloc_new (((w.alloc (cells3 null)).alloc (cells3 null)).alloc (cells3 null)) (cells3 null)
    rw [World.size_alloc, World.size_alloc, World.size_alloc] at h; rw [hw0]; exact h
  have gb : Below w.heap.size w w0 := by rw [hw0]; exact ((((Below.refl _ _).alloc (Nat.le_refl _) _).alloc (by simp) _).alloc (by simp; omega) _).alloc (by simp; omega) _
  have hw0' : w0 = (((w.alloc (.cells #[.int .u8 0, .int .i64 0, .string ⟨#[]⟩] 38)).alloc (.cells #[.int .u8 0, .int .i64 0, .string ⟨#[]⟩] 38)).alloc (.cells #[.int .u8 0, .int .i64 0, .string ⟨#[]⟩] 38)).alloc (.cells #[.int .u8 0, .int .i64 0, .string ⟨#[]⟩] 38) := hw0
  rw [← hw0']
  obtain ⟨p, hp⟩ : ∃ p, p = w.heap.size := ⟨_, rfl⟩
  rw [← hp] at g0 g1 g2 g3 gb hB ⊢
  have hpw : p ≤ w.heap.size := by omega
  have hpw2 : w.heap.size ≤ p := by omega
  clear hw0 hw0' hp
  go_loopw [11] (fun v11 wr => ∃ (k : Nat) (x y : V), k ≤ l.length ∧ v11 = .int .i64 k ∧ bnds (l.take k) = (x, y) ∧ vsm x ∧ vsm y ∧ (x.k = 0 ↔ y.k = 0) ∧ wr.heap[p]? = some (cells3 null) ∧ wr.heap[p + 1]? = some (cells3 null) ∧ wr.heap[p + 1 + 1]? = some (cells3 x) ∧ wr.heap[p + 1 + 1 + 1]? = some (cells3 y) ∧ Below p w wr) (fun v11 _ => l.length - (intOf v11).toNat)
  case atStart => exact ⟨0, null, null, by omega, rfl, rfl, by unfold vsm i64r null; simp, by unfold vsm i64r null; simp, Iff.rfl, g0, g1, g2, g3, gb⟩
  case round =>
    clear g0 g1 g2 g3 gb
    obtain ⟨k, x, y, hk, rfl, hbx, hx, hy, hxy, h0, h1, h2, h3, hbel⟩ := hrel
    have HBX := Lib.hid hbx
    have hzr : p ≤ wr.heap.size := Nat.le_trans hpw hbel.size
    have hrl := hl.below (hbel.mono hB)
    clear hbx
    by_cases hlt : k < l.length
    case neg =>
      have hkl : k = l.length := by omega
      have hE : bnds l = (x, y) := by have h := HBX.out; rw [hkl, List.take_length] at h; exact h
      have HE := Lib.hid hE
      obtain ⟨a0, a1, a2⟩ := three_cells h2
      obtain ⟨b0, b1, b2⟩ := three_cells h3
      obtain ⟨c0, c1, c2⟩ := three_cells h0
      obtain ⟨d0, d1, d2⟩ := three_cells h1
      obtain ⟨n0, n1, n2⟩ := three_free h0
      obtain ⟨o0, o1, o2⟩ := three_free h1
      have H0 := Lib.hid h0
      have H1 := Lib.hid h1
      have H2 := Lib.hid h2
      have H3 := Lib.hid h3
      clear hE h0 h1 h2 h3 hkl
      go_wp2_with fail
      refine ah_start 4 (fun w' => w'.heap[p + 1 + 1]? = some (cells3 x) ∧ w'.heap[p + 1 + 1 + 1]? = some (cells3 y)) rfl (by kernel_rfl) ⟨H2.out, H3.out⟩ ?_ ; intro hS
      (refine mv_val 0 (v := ?_) rfl (by kernel_rfl) (by kernel_rfl) (by kernel_rfl) (fun _ _ _ h => h) (by rfl) hS ?_ ?_; rotate_left; (focus (intro w hSw; (try dsimp only at hSw); (obtain ⟨f0, f1, f2⟩ := three_cells hSw.1; obtain ⟨f3, f4, f5⟩ := three_cells hSw.2); go_simp; first | done | with_reducible rfl)); simp only [Act.put, List.setIfInBounds_toArray, List.set_cons_zero, List.set_cons_succ])
      (refine mv_val 1 (v := ?_) rfl (by kernel_rfl) (by kernel_rfl) (by kernel_rfl) (fun _ _ _ h => h) (by rfl) hS ?_ ?_; rotate_left; (focus (intro w hSw; (try dsimp only at hSw); (obtain ⟨f0, f1, f2⟩ := three_cells hSw.1; obtain ⟨f3, f4, f5⟩ := three_cells hSw.2); go_simp; first | done | with_reducible rfl)); simp only [Act.put, List.setIfInBounds_toArray, List.set_cons_zero, List.set_cons_succ])
      refine mv_step 2 rfl (by kernel_rfl) (by rfl) (fun K hK => ?_)
      go_simp
      refine hK _ _ ?_ ?_ <;> clear hK K
      · exact ⟨three_other H2.out (by omega) _ _ _, three_other H3.out (by omega) _ _ _⟩
      replace hS := And.intro (three_other H2.out (show p + 1 + 1 ≠ p by omega) (.int .u8 (x.k : Int)) (.int .i64 x.n) (txt x.t)) (three_other H3.out (show p + 1 + 1 + 1 ≠ p by omega) (.int .u8 (x.k : Int)) (.int .i64 x.n) (txt x.t))
      try simp only [Act.put, List.setIfInBounds_toArray, List.set_cons_zero, List.set_cons_succ]
      have hS2 := And.intro (three_other hS.1 (show p + 1 + 1 ≠ p + 1 by omega) (.int .u8 (y.k : Int)) (.int .i64 y.n) (txt y.t)) (three_other hS.2 (show p + 1 + 1 + 1 ≠ p + 1 by omega) (.int .u8 (y.k : Int)) (.int .i64 y.n) (txt y.t))
      refine mv_step 3 rfl (by kernel_rfl) (by rfl) (fun K hK => ?_)
      go_simp
      refine hK _ _ ?_ ?_ <;> clear hK K
      · simp only [drew_heap]; exact hS2
      try simp only [Act.put, List.setIfInBounds_toArray, List.set_cons_zero, List.set_cons_succ]
      refine wpAnyH_done (by kernel_rfl) ?_ _
      go_wp2_with fail
      have hf0 := three_other (three_set H0.out (.int .u8 (x.k : Int)) (.int .i64 x.n) (txt x.t)) (show p ≠ p + 1 by omega) (.int .u8 (y.k : Int)) (.int .i64 y.n) (txt y.t)
      have hf1 := three_set (three_other H1.out (show p + 1 ≠ p by omega) (.int .u8 (x.k : Int)) (.int .i64 x.n) (txt x.t)) (.int .u8 (y.k : Int)) (.int .i64 y.n) (txt y.t)
      have hbf := three_below (three_below hbel (Nat.le_refl _) (.int .u8 (x.k : Int)) (.int .i64 x.n) (txt x.t)) (show p ≤ p + 1 by omega) (.int .u8 (y.k : Int)) (.int .i64 y.n) (txt y.t)
      generalize ((((((wr.setCell ⟨p, 0, none⟩ (.int .u8 (x.k : Int))).setCell ⟨p, 1, none⟩ (.int .i64 x.n)).setCell ⟨p, 2, none⟩ (txt x.t)).setCell ⟨p + 1, 0, none⟩ (.int .u8 (y.k : Int))).setCell ⟨p + 1, 1, none⟩ (.int .i64 y.n)).setCell ⟨p + 1, 2, none⟩ (txt y.t)) = wf at *
      obtain ⟨y0, y1, y2⟩ := three_cells hf0
      obtain ⟨y3, y4, y5⟩ := three_cells hf1
      refine bodyPost_ret (v := .tuple #[va x, va y]) (by simp [results, Try.results20, go_sem, y0, y1, y2, y3, y4, y5]) rfl ⟨by rw [HE.out], ?_⟩
      exact hbf.drew.mono hpw2
    obtain ⟨v, hvk⟩ : ∃ v, l[k]? = some v := ⟨_, List.getElem?_eq_getElem hlt⟩
    have hv := HOK.out v (List.mem_of_getElem? hvk)
    have hltI : (k : Int) < (l.length : Int) := by omega
    obtain ⟨bv, ov, rfl, hbv, e0, e1, e2⟩ := rd_val hrl hvk
    have hs := bnds_snoc hvk
    rw [HBX.out] at hs
    have HS := Lib.hid hs
    have hqr : p + 1 + 1 + 1 < wr.heap.size := lt_of_block h3
    have hqr2 : p + 1 + 1 < wr.heap.size := lt_of_block h2
    have R0 := Lib.hid h0
    have R1 := Lib.hid h1
    have R2 := Lib.hid h2
    have R3 := Lib.hid h3
    obtain ⟨A0, A1, A2⟩ := three_cells h2
    obtain ⟨B0, B1, B2⟩ := three_cells h3
    obtain ⟨C0, C1, C2⟩ := three_free h2
    obtain ⟨D0, D1, D2⟩ := three_free h3
    obtain ⟨w3, hw3⟩ : ∃ w3, w3 = wr.alloc (.cells #[.int .u8 (v.k : Int), .int .i64 v.n, txt v.t] 38) := ⟨_, rfl⟩
    obtain ⟨m0, m1, m2⟩ := cv_block wr (.int .u8 (v.k : Int)) (.int .i64 v.n) (txt v.t) 38
    rw [← hw3] at m0 m1 m2
    have hm3 : w3.heap[wr.heap.size]? = some (cells3 v) := by rw [hw3]; exact heap_alloc_new wr _
    have h0 : w3.heap[p]? = some (cells3 null) := by rw [hw3]; exact block_al h0 _
    have h1 : w3.heap[p + 1]? = some (cells3 null) := by rw [hw3]; exact block_al h1 _
    have h2 : w3.heap[p + 1 + 1]? = some (cells3 x) := by rw [hw3]; exact block_al h2 _
    have h3 : w3.heap[p + 1 + 1 + 1]? = some (cells3 y) := by rw [hw3]; exact block_al h3 _
    have bW : Below p w w3 := by rw [hw3]; exact hbel.alloc hzr _
    obtain ⟨a0, a1, a2⟩ := three_cells h2
    obtain ⟨b0, b1, b2⟩ := three_cells h3
    obtain ⟨c0, c1, c2⟩ := three_free h2
    obtain ⟨d0, d1, d2⟩ := three_free h3
    have H0 := Lib.hid h0
    have H1 := Lib.hid h1
    have H2 := Lib.hid h2
    have H3 := Lib.hid h3
    clear hs h0 h1 h2 h3 hvk hrl
    by_cases hv0 : v.k = 0
    · have hvI : ((v.k : Int) == 0) = true := by simp; omega
      have HV0 := Lib.hid hv0
      clear hv0
      go_wp2_with fail
      rw [← hw3]
      go_roundw
      case rel =>
        refine ⟨k + 1, x, y, by omega, by go_num, ?_, hx, hy, hxy, H0.out, H1.out, H2.out, H3.out, bW⟩
        rw [HS.out]; unfold bstep; rw [if_pos HV0.out]
      case measure => simp [intOf]; omega
    have hvI : ((v.k : Int) == 0) = false := by simp; omega
    have hvI2 : ((v.k : Int) == 0) = false := hvI
    obtain ⟨t1, ht1⟩ : ∃ t1, t1 = lessB v x := ⟨_, rfl⟩
    obtain ⟨t2, ht2⟩ : ∃ t2, t2 = lessB y v := ⟨_, rfl⟩
    have L1 := fun w => less_any v x hv hx w
    have L2 := fun w => less_any y v hy hv w
    rw [← ht1] at L1
    rw [← ht2] at L2
    have HL1 := Lib.hid L1
    have HL2 := Lib.hid L2
    have T1 := Lib.hid ht1
    have T2 := Lib.hid ht2
    clear L1 L2 ht1 ht2
    by_cases hx0 : x.k = 0
    · have hy0 := hxy.1 hx0
      have hxI : ((x.k : Int) == 0) = true := by simp; omega
      have hyI : ((y.k : Int) == 0) = true := by simp; omega
      have HX0 := Lib.hid hx0
      have HY0 := Lib.hid hy0
      have HV0 := Lib.hid hv0
      clear hx0 hy0 hv0 hxy
      go_wp2_with fail
      go_roundw
      case rel =>
        refine ⟨k + 1, v, v, by omega, by go_num, ?_, hv, hv, Iff.rfl, ?_, ?_, ?_, ?_, ?_⟩
        · rw [HS.out]; unfold bstep; rw [if_neg HV0.out]; simp [HX0.out, HY0.out]
        · exact block_al (three_other (three_other R0.out (by omega) _ _ _) (by omega) _ _ _) _
        · exact block_al (three_other (three_other R1.out (by omega) _ _ _) (by omega) _ _ _) _
        · exact block_al (three_other (three_set R2.out _ _ _) (by omega) _ _ _) _
        · exact block_al (three_set (three_other R3.out (by omega) _ _ _) _ _ _) _
        · exact (three_below (three_below hbel (by omega) _ _ _) (by omega) _ _ _).alloc (by simp; omega) _
      case measure => simp [intOf]; omega
    have hy0 : ¬ y.k = 0 := fun h => hx0 (hxy.2 h)
    have hxI : ((x.k : Int) == 0) = false := by simp; omega
    have hyI : ((y.k : Int) == 0) = false := by simp; omega
    have HX0 := Lib.hid hx0
    have HY0 := Lib.hid hy0
    have HV0 := Lib.hid hv0
    have HXY := Lib.hid hxy
    clear hx0 hy0 hv0 hxy
    go_wp2_with fail
    refine (HL1.out _).mono ?_; rintro e w4 ⟨rfl, hb4⟩
    rw [← hw3] at hb4
    have h0 := (hb4.block _ (lt_of_block H0.out)).trans H0.out
    have h1 := (hb4.block _ (lt_of_block H1.out)).trans H1.out
    have h2 := (hb4.block _ (lt_of_block H2.out)).trans H2.out
    have h3 := (hb4.block _ (lt_of_block H3.out)).trans H3.out
    have hm := (hb4.block _ (lt_of_block hm3)).trans hm3
    have hb04 : Below p w w4 := bW.trans (hb4.mono (Nat.le_trans hpw bW.size))
    clear hw3 H0 H1 H2 H3 R0 R1 R2 R3 A0 A1 A2 B0 B1 B2 C0 C1 C2 D0 D1 D2 a0 a1 a2 b0 b1 b2 c0 c1 c2 d0 d1 d2 m0 m1 m2 hm3
    cases t1
    · obtain ⟨a0, a1, a2⟩ := three_cells h2
      obtain ⟨b0, b1, b2⟩ := three_cells h3
      obtain ⟨n0, n1, n2⟩ := three_free h2
      obtain ⟨o0, o1, o2⟩ := three_free h3
      obtain ⟨m0, m1, m2⟩ := three_cells hm
      have H0 := Lib.hid h0
      have H1 := Lib.hid h1
      have H2 := Lib.hid h2
      have H3 := Lib.hid h3
      have HM := Lib.hid hm
      clear h0 h1 h2 h3 hm
      go_wp2_with fail
      refine (HL2.out _).mono ?_; rintro e w6 ⟨rfl, hb6⟩
      clear a0 a1 a2 b0 b1 b2 n0 n1 n2 o0 o1 o2 m0 m1 m2
      have h0 := H0.out
      have h1 := H1.out
      have h2 := H2.out
      have h3 := H3.out
      have hm := HM.out
      have bW := hb04
      have w5 := w4
      clear H0 H1 H2 H3 HM
      have h0 := (hb6.block _ (lt_of_block h0)).trans h0
      have h1 := (hb6.block _ (lt_of_block h1)).trans h1
      have h2 := (hb6.block _ (lt_of_block h2)).trans h2
      have h3 := (hb6.block _ (lt_of_block h3)).trans h3
      have hm := (hb6.block _ (lt_of_block hm)).trans hm
      have bV : Below p w w6 := bW.trans (hb6.mono (Nat.le_trans hpw bW.size))
      obtain ⟨b0, b1, b2⟩ := three_cells h3
      obtain ⟨n0, n1, n2⟩ := three_free h3
      obtain ⟨m0, m1, m2⟩ := three_cells hm
      have H0 := Lib.hid h0
      have H1 := Lib.hid h1
      have H2 := Lib.hid h2
      have H3 := Lib.hid h3
      clear h0 h1 h2 h3 hm
      cases t2
      · go_wp2_with fail
        go_roundw
        case rel =>
          refine ⟨k + 1, x, y, by omega, by go_num, ?_, hx, hy, HXY.out, H0.out, H1.out, H2.out, H3.out, bV⟩
          rw [HS.out]; unfold bstep; rw [if_neg HV0.out]; simp [← T1.out, ← T2.out, HX0.out, HY0.out]
        case measure => simp [intOf]; omega
      · go_wp2_with fail
        go_roundw
        case rel =>
          refine ⟨k + 1, x, v, by omega, by go_num, ?_, hx, hv, ⟨fun h => absurd h HX0.out, fun h => absurd h HV0.out⟩, three_other H0.out (by omega) _ _ _, three_other H1.out (by omega) _ _ _, three_other H2.out (by omega) _ _ _, three_set H3.out _ _ _, three_below bV (by omega) _ _ _⟩
          rw [HS.out]; unfold bstep; rw [if_neg HV0.out]; simp [← T1.out, ← T2.out, HX0.out, HY0.out]
        case measure => simp [intOf]; omega
    · obtain ⟨a0, a1, a2⟩ := three_cells h2
      obtain ⟨b0, b1, b2⟩ := three_cells h3
      obtain ⟨n0, n1, n2⟩ := three_free h2
      obtain ⟨o0, o1, o2⟩ := three_free h3
      obtain ⟨m0, m1, m2⟩ := three_cells hm
      have H0 := Lib.hid h0
      have H1 := Lib.hid h1
      have H2 := Lib.hid h2
      have H3 := Lib.hid h3
      have HM := Lib.hid hm
      clear h0 h1 h2 h3 hm
      go_wp2_with fail
      refine (HL2.out _).mono ?_; rintro e w6 ⟨rfl, hb6⟩
      clear a0 a1 a2 b0 b1 b2 n0 n1 n2 o0 o1 o2 m0 m1 m2
      have h0 := three_other H0.out (show p ≠ p + 1 + 1 by omega) (.int .u8 (v.k : Int)) (.int .i64 v.n) (txt v.t)
      have h1 := three_other H1.out (show p + 1 ≠ p + 1 + 1 by omega) (.int .u8 (v.k : Int)) (.int .i64 v.n) (txt v.t)
      have h2 := three_set H2.out (.int .u8 (v.k : Int)) (.int .i64 v.n) (txt v.t)
      have h3 := three_other H3.out (show p + 1 + 1 + 1 ≠ p + 1 + 1 by omega) (.int .u8 (v.k : Int)) (.int .i64 v.n) (txt v.t)
      have hm := three_other HM.out (show wr.heap.size ≠ p + 1 + 1 by omega) (.int .u8 (v.k : Int)) (.int .i64 v.n) (txt v.t)
      have bW := three_below hb04 (show p ≤ p + 1 + 1 by omega) (.int .u8 (v.k : Int)) (.int .i64 v.n) (txt v.t)
      generalize (((w4.setCell ⟨p + 1 + 1, 0, none⟩ (.int .u8 (v.k : Int))).setCell ⟨p + 1 + 1, 1, none⟩ (.int .i64 v.n)).setCell ⟨p + 1 + 1, 2, none⟩ (txt v.t)) = w5 at *
      clear H0 H1 H2 H3 HM
      have h0 := (hb6.block _ (lt_of_block h0)).trans h0
      have h1 := (hb6.block _ (lt_of_block h1)).trans h1
      have h2 := (hb6.block _ (lt_of_block h2)).trans h2
      have h3 := (hb6.block _ (lt_of_block h3)).trans h3
      have hm := (hb6.block _ (lt_of_block hm)).trans hm
      have bV : Below p w w6 := bW.trans (hb6.mono (Nat.le_trans hpw bW.size))
      obtain ⟨b0, b1, b2⟩ := three_cells h3
      obtain ⟨n0, n1, n2⟩ := three_free h3
      obtain ⟨m0, m1, m2⟩ := three_cells hm
      have H0 := Lib.hid h0
      have H1 := Lib.hid h1
      have H2 := Lib.hid h2
      have H3 := Lib.hid h3
      clear h0 h1 h2 h3 hm
      cases t2
      · go_wp2_with fail
        go_roundw
        case rel =>
          refine ⟨k + 1, v, y, by omega, by go_num, ?_, hv, hy, ⟨fun h => absurd h HV0.out, fun h => absurd h HY0.out⟩, H0.out, H1.out, H2.out, H3.out, bV⟩
          rw [HS.out]; unfold bstep; rw [if_neg HV0.out]; simp [← T1.out, ← T2.out, HX0.out, HY0.out]
        case measure => simp [intOf]; omega
      · go_wp2_with fail
        go_roundw
        case rel =>
          refine ⟨k + 1, v, v, by omega, by go_num, ?_, hv, hv, Iff.rfl, three_other H0.out (by omega) _ _ _, three_other H1.out (by omega) _ _ _, three_other H2.out (by omega) _ _ _, three_set H3.out _ _ _, three_below bV (by omega) _ _ _⟩
          rw [HS.out]; unfold bstep; rw [if_neg HV0.out]; simp [← T1.out, ← T2.out, HX0.out, HY0.out]
        case measure => simp [intOf]; omega
end Go.Proofs.Ytiijnfakphhbeaa

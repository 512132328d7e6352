/- Joined texts: see the remark ahead of each part. No condition but those that the parts name. -/
import Derived.Test.YthkpgjcnnfdibaaCRb
import Derived.Test.YthkpgjcnnfdibaaCoL
/-! The walk of the reference's Bounds (layer 6). No condition. -/
namespace Go.Proofs.Ythkpgjcnnfdibaa
open Go.RowKit Go.Maps
set_option linter.unusedVariables false
set_option linter.unusedSimpArgs false

def bstepV (p : V × V) (v : V) : V × V := (if lessV v p.1 = true then v else p.1, if lessV p.2 v = true then v else p.2)
def bndM : List V → V × V
  | [] => (null, null)
  | v :: r => r.foldl bstepV (v, v)
def bndV (l : List V) : V × V := bndM (marks l)
theorem bndV_snoc {r : List V} {k : Nat} {v : V} {p : V × V} (h : r[k]? = some v) : (r.take (k + 1)).foldl bstepV p = bstepV ((r.take k).foldl bstepV p) v := by
  rw [List.take_add_one, h, List.foldl_append]; rfl
theorem bnds_fold : ∀ (l : List V) (x y : V), (∀ v ∈ l, good v) → good x → good y → x.k ≠ 0 → y.k ≠ 0 → l.foldl bstep (x, y) = (marks l).foldl bstepV (x, y)
  | [], x, y, _, _, _, _, _ => rfl
  | v :: l, x, y, h, hx, hy, hx0, hy0 => by
    have hv := h v (List.mem_cons_self ..)
    have ih := fun x y => bnds_fold l x y fun u hu => h u (List.mem_cons_of_mem _ hu)
    rw [List.foldl_cons]
    by_cases h0 : v.k = 0
    · have e : bstep (x, y) v = (x, y) := by unfold bstep; rw [if_pos h0]
      have e2 : marks (v :: l) = marks l := by unfold marks; rw [List.filter_cons, if_neg (by simp [h0])]
      rw [e, e2]; exact ih x y hx hy hx0 hy0
    · have e : bstep (x, y) v = bstepV (x, y) v := by
        unfold bstep bstepV
        rw [if_neg h0]
        simp only [hx0, hy0, false_or, lessB_eq hv hx, lessB_eq hy hv]
      have e2 : marks (v :: l) = v :: marks l := by unfold marks; rw [List.filter_cons, if_pos (by simp [h0])]
      rw [e, e2, List.foldl_cons]
      have e3 : bstepV (x, y) v = ((bstepV (x, y) v).1, (bstepV (x, y) v).2) := rfl
      rw [e3]
      refine ih _ _ ?_ ?_ ?_ ?_
      · unfold bstepV; dsimp only; split <;> assumption
      · unfold bstepV; dsimp only; split <;> assumption
      · unfold bstepV; dsimp only; split <;> assumption
      · unfold bstepV; dsimp only; split <;> assumption
theorem bnds_eq : ∀ (l : List V), (∀ v ∈ l, good v) → bnds l = bndV l
  | [], _ => rfl
  | v :: l, h => by
    by_cases h0 : v.k = 0
    · have e2 : marks (v :: l) = marks l := by unfold marks; rw [List.filter_cons, if_neg (by simp [h0])]
      have e : bnds (v :: l) = bnds l := by unfold bnds; rw [List.foldl_cons]; unfold bstep; rw [if_pos h0]
      have e3 : bndV (v :: l) = bndV l := by unfold bndV; rw [e2]
      rw [e, e3]; exact bnds_eq l fun u hu => h u (List.mem_cons_of_mem _ hu)
    · have e2 : marks (v :: l) = v :: marks l := by unfold marks; rw [List.filter_cons, if_pos (by simp [h0])]
      have hv := h v (List.mem_cons_self ..)
      have e : bnds (v :: l) = l.foldl bstep (v, v) := by
        unfold bnds; rw [List.foldl_cons]; unfold bstep; rw [if_neg h0]; simp [null]
      unfold bndV
      rw [e, e2]
      exact bnds_fold l v v (fun u hu => h u (List.mem_cons_of_mem _ hu)) hv hv h0 h0

set_option maxHeartbeats 8000000 in
set_option maxRecDepth 100000 in
theorem rbounds_any (B : Nat) (A : Option Addr) (c : Nat) (l : List V) (w : World) (hl : Rd w B A (vcells l)) (hB : B ≤ w.heap.size) (hll : l.length ≤ 4294967296) :
    Calls Try.prog 42 #[.slice A l.length c] w fun e w' => e = .returned (.tuple #[va (bndV l).1, va (bndV l).2]) ∧ Below w.heap.size w w' := by
  obtain ⟨by_, HEL, hby⟩ := El_val
  obtain ⟨n, hn⟩ : ∃ n, n = l.length := ⟨_, rfl⟩
  have HN := Lib.hid hn
  rw [← hn] at hll ⊢
  clear hn
  go_enter Try.func42, Try.ntmps42
  go_wp2_with fail
  obtain ⟨w0, hw0⟩ : ∃ w0, w0 = (w.alloc (cells3 null)).alloc (cells3 null) := ⟨_, rfl⟩
  have g0 : w0.heap[w.heap.size]? = some (cells3 null) := by rw [hw0]; exact block_al (heap_alloc_new w _) _
  have g1 : w0.heap[w.heap.size + 1]? = some (cells3 null) := by
    have h := heap_alloc_new (w.alloc (cells3 null)) (cells3 null)
    rw [World.size_alloc] at h; rw [hw0]; exact h
  have gb : Below w.heap.size w w0 := by rw [hw0]; exact ((Below.refl _ _).alloc (Nat.le_refl _) _).alloc (by simp) _
  have gz : w0.heap.size = w.heap.size + 1 + 1 := by rw [hw0]; simp
  have hw0' : w0 = (w.alloc (.cells #[.int .u8 0, .int .i64 0, .string ⟨#[]⟩] 46)).alloc (.cells #[.int .u8 0, .int .i64 0, .string ⟨#[]⟩] 46) := hw0
  rw [← hw0']
  obtain ⟨p, hp⟩ : ∃ p, p = w.heap.size := ⟨_, rfl⟩
  rw [← hp] at g0 g1 gb gz hB ⊢
  have hpw : p ≤ w.heap.size := by omega
  have hpw2 : w.heap.size ≤ p := by omega
  clear hw0 hw0' hp
  go_loopw [4, 5] (fun v4 v5 wr => ∃ (k : Nat) (m : List V), k ≤ n ∧ v5 = .int .i64 k ∧ m = marks (l.take k) ∧ m.length ≤ k ∧ wr.ownsRow (p + 1 + 1) 46 3 v4 m.length (vcells m) ∧ wr.heap[p]? = some (cells3 null) ∧ wr.heap[p + 1]? = some (cells3 null) ∧ p + 1 + 1 ≤ wr.heap.size ∧ Below p w wr) (fun _ v5 _ => n - (intOf v5).toNat)
  case atStart => exact ⟨0, [], by omega, rfl, rfl, by simp, World.ownsRow_nil _ _ _ _, g0, g1, by omega, gb⟩
  case round =>
    clear g0 g1 gb gz
    obtain ⟨k, m, hk, rfl, hm, hmk, hown, h0, h1, hpr, hbel⟩ := hrel
    have HM := Lib.hid hm
    have H0 := Lib.hid h0
    have H1 := Lib.hid h1
    clear hm
    by_cases hlt : k < n
    case neg =>
      have hkn : k = n := by omega
      have hge : (n : Int) ≤ (k : Int) := by omega
      have hmm : m = marks l := by rw [HM.out, hkn, HN.out, List.take_length]
      have hE : bndV l = bndM m := by unfold bndV; rw [hmm]
      have HE := Lib.hid hE
      clear hkn hmm hE h0 h1
      rcases m with _ | ⟨v0, r⟩
      · have HE2 : Hid (bndV l = (null, null)) := Lib.hid HE.out
        obtain ⟨a0, a1, a2⟩ := three_cells H0.out
        obtain ⟨b0, b1, b2⟩ := three_cells H1.out
        obtain ⟨n0, n1, n2⟩ := three_free H0.out
        obtain ⟨o0, o1, o2⟩ := three_free H1.out
        obtain ⟨A4, c4, rfl, _⟩ := own_form hown
        simp only [List.length_nil] at hmk
        rw [show ([] : List V).length = 0 from rfl]
        clear HE hown
        go_wp2_with fail
        have hf0 := three_other (three_set H0.out (.int .u8 0) (.int .i64 0) (.string ⟨#[]⟩)) (show p ≠ p + 1 by omega) (.int .u8 0) (.int .i64 0) (.string ⟨#[]⟩)
        have hf1 := three_set (three_other H1.out (show p + 1 ≠ p by omega) (.int .u8 0) (.int .i64 0) (.string ⟨#[]⟩)) (.int .u8 0) (.int .i64 0) (.string ⟨#[]⟩)
        have hbf := three_below (three_below hbel (Nat.le_refl _) (.int .u8 0) (.int .i64 0) (.string ⟨#[]⟩)) (show p ≤ p + 1 by omega) (.int .u8 0) (.int .i64 0) (.string ⟨#[]⟩)
        generalize ((((((wr.setCell ⟨p, 0, none⟩ (.int .u8 0)).setCell ⟨p, 1, none⟩ (.int .i64 0)).setCell ⟨p, 2, none⟩ (.string ⟨#[]⟩)).setCell ⟨p + 1, 0, none⟩ (.int .u8 0)).setCell ⟨p + 1, 1, none⟩ (.int .i64 0)).setCell ⟨p + 1, 2, none⟩ (.string ⟨#[]⟩)) = wf at *
        obtain ⟨y0, y1, y2⟩ := three_cells hf0
        obtain ⟨y3, y4, y5⟩ := three_cells hf1
        refine bodyPost_ret (v := .tuple #[va null, va null]) (by simp [results, Try.results42, go_sem, null, y0, y1, y2, y3, y4, y5]) rfl ⟨by rw [HE2.out], ?_⟩
        exact hbf.mono hpw2
      have HE2 : Hid (bndV l = r.foldl bstepV (v0, v0)) := Lib.hid HE.out
      obtain ⟨A4, c4, rfl, _⟩ := own_form hown
      have hrm := rd_own hown
      obtain ⟨bv, ov, rfl, hbv, e0, e1, e2⟩ := rd_val hrm (i := 0) (v := v0) rfl
      rw [Nat.zero_mul, Nat.add_zero] at e0 e1 e2
      obtain ⟨q, hq⟩ : ∃ q, q = (v0 :: r).length := ⟨_, rfl⟩
      have hqr : q = r.length + 1 := by rw [hq]; simp
      rw [← hq] at hmk ⊢
      have hq0 : ((q : Int) == 0) = false := by simp; omega
      have hq1 : (0 : Int) < (q : Int) := by omega
      have hq2 : 0 < q := by omega
      have HQR := Lib.hid hqr
      have hnq : q ≤ 4294967296 := by omega
      clear HE hown hq hqr
      go_wp2_with fail
      obtain ⟨w1, hw1⟩ : ∃ w1, w1 = (wr.alloc (cells3 v0)).alloc (cells3 v0) := ⟨_, rfl⟩
      have hw1' : w1 = (wr.alloc (.cells #[.int .u8 (v0.k : Int), .int .i64 v0.n, .string ⟨v0.t.toArray⟩] 46)).alloc (.cells #[.int .u8 (v0.k : Int), .int .i64 v0.n, .string ⟨v0.t.toArray⟩] 46) := hw1
      rw [← hw1']
      have j0 : w1.heap[p]? = some (cells3 null) := by rw [hw1]; exact block_al (block_al H0.out _) _
      have j1 : w1.heap[p + 1]? = some (cells3 null) := by rw [hw1]; exact block_al (block_al H1.out _) _
      have j2 : w1.heap[wr.heap.size]? = some (cells3 v0) := by rw [hw1]; exact block_al (heap_alloc_new wr _) _
      have j3 : w1.heap[wr.heap.size + 1]? = some (cells3 v0) := by
        have h := heap_alloc_new (wr.alloc (cells3 v0)) (cells3 v0)
        rw [World.size_alloc] at h; rw [hw1]; exact h
      have jb : Below wr.heap.size wr w1 := by rw [hw1]; exact ((Below.refl _ _).alloc (Nat.le_refl _) _).alloc (by simp) _
      obtain ⟨d, hd⟩ : ∃ d, d = wr.heap.size := ⟨_, rfl⟩
      have hrm1 := hrm.below jb
      have hb1 : Below p w w1 := hbel.trans (jb.mono (by omega))
      rw [← hd] at j2 j3 jb hrm1 hpr hrm hbv ⊢
      clear hw1 hw1' hd H0 H1 hbel jb e0 e1 e2
      try rw [show decide (k < n) = false from decide_eq_false (by omega)]
      go_loopw [8] (fun v8 wr => ∃ (i : Nat) (x y : V), i + 1 ≤ q ∧ v8 = .int .i64 ((i + 1 : Nat) : Int) ∧ (r.take i).foldl bstepV (v0, v0) = (x, y) ∧ Rd wr d (some ⟨bv, ov, none⟩) (vcells (v0 :: r)) ∧ wr.heap[p]? = some (cells3 null) ∧ wr.heap[p + 1]? = some (cells3 null) ∧ wr.heap[d]? = some (cells3 x) ∧ wr.heap[d + 1]? = some (cells3 y) ∧ Below p w wr) (fun v8 _ => q - (intOf v8).toNat)
      case atStart => exact ⟨0, v0, v0, by omega, rfl, rfl, hrm1, j0, j1, j2, j3, hb1⟩
      case round =>
        clear hrm1 j0 j1 j2 j3 hb1
        obtain ⟨i, x, y, hi, rfl, hxy, hrd, h0, h1, h2, h3, hbel⟩ := hrel
        have HXY := Lib.hid hxy
        have hzr : p ≤ wr.heap.size := Nat.le_trans hpw hbel.size
        have hd1 : d + 1 < wr.heap.size := lt_of_block h3
        have hi1 : (((i + 1 : Nat)) : Int) = (i : Int) + 1 := by omega
        rw [hi1]
        clear hxy
        by_cases hlt : i + 1 < q
        case neg =>
          have hil : i = r.length := by have := HQR.out; omega
          have hE : bndV l = (x, y) := by rw [HE2.out, ← HXY.out, hil, List.take_length]
          have HE := Lib.hid hE
          have hge : (q : Int) ≤ (i : Int) + 1 := by omega
          obtain ⟨a0, a1, a2⟩ := three_cells h2
          obtain ⟨b0, b1, b2⟩ := three_cells h3
          obtain ⟨c0, c1, c2⟩ := three_cells h0
          obtain ⟨d0, d1, d2⟩ := three_cells h1
          obtain ⟨n0, n1, n2⟩ := three_free h0
          obtain ⟨o0, o1, o2⟩ := three_free h1
          have H0 := Lib.hid h0
          have H1 := Lib.hid h1
          have H2 := Lib.hid h2
          have H3 := Lib.hid h3
          have hpd : p ≠ d := by omega
          have hpd1 : p ≠ d + 1 := by omega
          have hpd2 : p + 1 ≠ d := by omega
          clear hE h0 h1 h2 h3 hil
          go_wp2_with fail
          refine ah_start 4 (fun w' => w'.heap[d]? = some (cells3 x) ∧ w'.heap[d + 1]? = some (cells3 y)) rfl (by kernel_rfl) ⟨H2.out, H3.out⟩ ?_ ; intro hS
          (refine mv_val 0 (v := ?_) rfl (by kernel_rfl) (by kernel_rfl) (by kernel_rfl) (fun _ _ _ h => h) (by rfl) hS ?_ ?_; rotate_left; (focus (intro w hSw; (try dsimp only at hSw); (obtain ⟨f0, f1, f2⟩ := three_cells hSw.1; obtain ⟨f3, f4, f5⟩ := three_cells hSw.2); go_simp; first | done | with_reducible rfl)); simp only [Act.put, List.setIfInBounds_toArray, List.set_cons_zero, List.set_cons_succ])
          (refine mv_val 1 (v := ?_) rfl (by kernel_rfl) (by kernel_rfl) (by kernel_rfl) (fun _ _ _ h => h) (by rfl) hS ?_ ?_; rotate_left; (focus (intro w hSw; (try dsimp only at hSw); (obtain ⟨f0, f1, f2⟩ := three_cells hSw.1; obtain ⟨f3, f4, f5⟩ := three_cells hSw.2); go_simp; first | done | with_reducible rfl)); simp only [Act.put, List.setIfInBounds_toArray, List.set_cons_zero, List.set_cons_succ])
          refine mv_step 2 rfl (by kernel_rfl) (by rfl) (fun K hK => ?_)
          go_simp
          refine hK _ _ ?_ ?_ <;> clear hK K
          · exact ⟨three_other H2.out (by omega) _ _ _, three_other H3.out (by omega) _ _ _⟩
          replace hS := And.intro (three_other H2.out (show d ≠ p by omega) (.int .u8 (x.k : Int)) (.int .i64 x.n) (txt x.t)) (three_other H3.out (show d + 1 ≠ p by omega) (.int .u8 (x.k : Int)) (.int .i64 x.n) (txt x.t))
          try simp only [Act.put, List.setIfInBounds_toArray, List.set_cons_zero, List.set_cons_succ]
          have hS2 := And.intro (three_other hS.1 (show d ≠ p + 1 by omega) (.int .u8 (y.k : Int)) (.int .i64 y.n) (txt y.t)) (three_other hS.2 (show d + 1 ≠ p + 1 by omega) (.int .u8 (y.k : Int)) (.int .i64 y.n) (txt y.t))
          refine mv_step 3 rfl (by kernel_rfl) (by rfl) (fun K hK => ?_)
          go_simp
          refine hK _ _ ?_ ?_ <;> clear hK K
          · simp only [drew_heap]; exact hS2
          try simp only [Act.put, List.setIfInBounds_toArray, List.set_cons_zero, List.set_cons_succ]
          refine wpAnyH_done (by kernel_rfl) ?_ _
          go_wp2_with fail
          have hf0 := three_other (three_set H0.out (.int .u8 (x.k : Int)) (.int .i64 x.n) (txt x.t)) (show p ≠ p + 1 by omega) (.int .u8 (y.k : Int)) (.int .i64 y.n) (txt y.t)
          have hf1 := three_set (three_other H1.out (show p + 1 ≠ p by omega) (.int .u8 (x.k : Int)) (.int .i64 x.n) (txt x.t)) (.int .u8 (y.k : Int)) (.int .i64 y.n) (txt y.t)
          have hbf := three_below (three_below hbel (Nat.le_refl _) (.int .u8 (x.k : Int)) (.int .i64 x.n) (txt x.t)) (show p ≤ p + 1 by omega) (.int .u8 (y.k : Int)) (.int .i64 y.n) (txt y.t)
          generalize ((((((wr.setCell ⟨p, 0, none⟩ (.int .u8 (x.k : Int))).setCell ⟨p, 1, none⟩ (.int .i64 x.n)).setCell ⟨p, 2, none⟩ (txt x.t)).setCell ⟨p + 1, 0, none⟩ (.int .u8 (y.k : Int))).setCell ⟨p + 1, 1, none⟩ (.int .i64 y.n)).setCell ⟨p + 1, 2, none⟩ (txt y.t)) = wf at *
          obtain ⟨y0, y1, y2⟩ := three_cells hf0
          obtain ⟨y3, y4, y5⟩ := three_cells hf1
          refine bodyPost_ret (v := .tuple #[va x, va y]) (by simp [results, Try.results42, go_sem, y0, y1, y2, y3, y4, y5]) rfl ⟨by rw [HE.out], ?_⟩
          exact hbf.drew.mono hpw2
        obtain ⟨v, hvk⟩ : ∃ v, r[i]? = some v := ⟨_, List.getElem?_eq_getElem (by have := HQR.out; omega)⟩
        have hvk1 : (v0 :: r)[i + 1]? = some v := by simpa using hvk
        have hltI : (i : Int) + 1 < (q : Int) := by omega
        obtain ⟨bv2, ov2, hbo, hbv2, e0, e1, e2⟩ := rd_val hrd hvk1
        cases hbo
        have hs := bndV_snoc (p := (v0, v0)) hvk
        rw [HXY.out] at hs
        have HS := Lib.hid hs
        obtain ⟨t1, ht1⟩ : ∃ t1, t1 = lessV v x := ⟨_, rfl⟩
        obtain ⟨t2, ht2⟩ : ∃ t2, t2 = lessV y v := ⟨_, rfl⟩
        have L1 := fun w => Less_any v x w
        have L2 := fun w => Less_any y v w
        rw [← ht1] at L1
        rw [← ht2] at L2
        have HL1 := Lib.hid L1
        have HL2 := Lib.hid L2
        have T1 := Lib.hid ht1
        have T2 := Lib.hid ht2
        have hiN : (i + 1) * 3 = i * 3 + 3 := by omega
        have E := Lib.hid (fun (w' : World) (h : Below d wr w') => And.intro ((h.cell (p := ⟨bv, ov + (i + 1) * 3, none⟩) (by show bv < _; omega)).trans e0) (And.intro ((h.cell (p := ⟨bv, ov + (i + 1) * 3 + 1, none⟩) (by show bv < _; omega)).trans e1) ((h.cell (p := ⟨bv, ov + (i + 1) * 3 + 2, none⟩) (by show bv < _; omega)).trans e2)))
        have H0 := Lib.hid h0
        have H1 := Lib.hid h1
        have H2 := Lib.hid h2
        have H3 := Lib.hid h3
        clear L1 L2 ht1 ht2 hs hvk hvk1 h0 h1 h2 h3 e0 e1 e2 hiN
        go_wp2_with fail
        refine ah_start 6 (fun w' => Below wr.heap.size wr w') rfl (by kernel_rfl) (Below.refl _ _).drew ?_ ; intro hS
        (refine mv_val 0 (v := ?_) rfl (by kernel_rfl) (by kernel_rfl) (by kernel_rfl) (fun _ _ _ h => h) (by rfl) hS ?_ ?_; rotate_left; (focus (intro w hSw; (try dsimp only at hSw); (have f0 := (hSw.block d (by omega)).trans H2.out; obtain ⟨f1, f2, f3⟩ := three_cells f0; obtain ⟨f4, f5, f6⟩ := E.out w (hSw.mono (by omega)); have f7 := hltI; have f8 := hlt; have f9 : (0 : Int) ≤ (i : Int) + 1 := by omega); go_simp; first | done | with_reducible rfl)); simp only [Act.put, List.setIfInBounds_toArray, List.set_cons_zero, List.set_cons_succ])
        (refine mv_val 1 (v := ?_) rfl (by kernel_rfl) (by kernel_rfl) (by kernel_rfl) (fun _ _ _ h => h) (by rfl) hS ?_ ?_; rotate_left; (focus (intro w hSw; (try dsimp only at hSw); (have f0 := (hSw.block d (by omega)).trans H2.out; obtain ⟨f1, f2, f3⟩ := three_cells f0; obtain ⟨f4, f5, f6⟩ := E.out w (hSw.mono (by omega)); have f7 := hltI; have f8 := hlt; have f9 : (0 : Int) ≤ (i : Int) + 1 := by omega); go_simp; first | done | with_reducible rfl)); simp only [Act.put, List.setIfInBounds_toArray, List.set_cons_zero, List.set_cons_succ])
        (refine mv_val 2 (v := ?_) rfl (by kernel_rfl) (by kernel_rfl) (by kernel_rfl) (fun _ _ _ h => h) (by rfl) hS ?_ ?_; rotate_left; (focus (intro w hSw; (try dsimp only at hSw); (have f0 := (hSw.block d (by omega)).trans H2.out; obtain ⟨f1, f2, f3⟩ := three_cells f0; obtain ⟨f4, f5, f6⟩ := E.out w (hSw.mono (by omega)); have f7 := hltI; have f8 := hlt; have f9 : (0 : Int) ≤ (i : Int) + 1 := by omega); go_simp; first | done | with_reducible rfl)); simp only [Act.put, List.setIfInBounds_toArray, List.set_cons_zero, List.set_cons_succ])
        (refine mv_val 3 (v := ?_) rfl (by kernel_rfl) (by kernel_rfl) (by kernel_rfl) (fun _ _ _ h => h) (by rfl) hS ?_ ?_; rotate_left; (focus (intro w hSw; (try dsimp only at hSw); (have f0 := (hSw.block d (by omega)).trans H2.out; obtain ⟨f1, f2, f3⟩ := three_cells f0; obtain ⟨f4, f5, f6⟩ := E.out w (hSw.mono (by omega)); have f7 := hltI; have f8 := hlt; have f9 : (0 : Int) ≤ (i : Int) + 1 := by omega); go_simp; first | done | with_reducible rfl)); simp only [Act.put, List.setIfInBounds_toArray, List.set_cons_zero, List.set_cons_succ])
        (refine mv_val 4 (v := ?_) rfl (by kernel_rfl) (by kernel_rfl) (by kernel_rfl) (fun _ _ _ h => h) (by rfl) hS ?_ ?_; rotate_left; (focus (intro w hSw; (try dsimp only at hSw); (have f0 := (hSw.block d (by omega)).trans H2.out; obtain ⟨f1, f2, f3⟩ := three_cells f0; obtain ⟨f4, f5, f6⟩ := E.out w (hSw.mono (by omega)); have f7 := hltI; have f8 := hlt; have f9 : (0 : Int) ≤ (i : Int) + 1 := by omega); go_simp; first | done | with_reducible rfl)); simp only [Act.put, List.setIfInBounds_toArray, List.set_cons_zero, List.set_cons_succ])
        (refine mv_call 5 (f := ?_) (args := ?_) rfl (by kernel_rfl) (by rfl) ?_ ?_; rotate_left 2; (focus (go_simp; first | done | with_reducible rfl | (refine ⟨?_, ?_⟩ <;> with_reducible rfl))))
        refine (HL1.out _).mono ?_; rintro e w4 ⟨rfl, hb4⟩
        have hS4 : Below wr.heap.size wr w4 := hS.trans (hb4.mono hS.size)
        refine ⟨_, rfl, hS4, ?_⟩
        replace hS := hS4
        clear hS4
        simp only [Act.put, List.setIfInBounds_toArray, List.set_cons_zero, List.set_cons_succ]
        refine wpAnyH_done (by kernel_rfl) ?_ _
        have h0 := (hS.block _ (lt_of_block H0.out)).trans H0.out
        have h1 := (hS.block _ (lt_of_block H1.out)).trans H1.out
        have h2 := (hS.block _ (lt_of_block H2.out)).trans H2.out
        have h3 := (hS.block _ (lt_of_block H3.out)).trans H3.out
        have hrd4 := hrd.below (hS.mono (show d ≤ wr.heap.size by omega))
        obtain ⟨e0, e1, e2⟩ := E.out w4 (hS.mono (by omega))
        have hb04 : Below p w w4 := hbel.trans (hS.mono hzr)
        have hd4 : d + 1 < w4.heap.size := lt_of_block h3
        have E4 := Lib.hid (fun (w' : World) (h : Below d w4 w') => E.out w' ((hS.mono (show d ≤ wr.heap.size by omega)).trans h))
        clear hS hb4 H0 H1 H2 H3 E hrd hbel
        cases t1
        · obtain ⟨w5, hw5⟩ : ∃ w5, w5 = w4 := ⟨_, rfl⟩
          rw [← hw5] at h0 h1 h2 h3 hrd4 hb04 hd4 E4 e0 e1 e2
          clear e0 e1 e2
          go_wp2_with fail
          rw [← hw5]
          clear hw5
          refine ah_start 6 (fun w' => Below w5.heap.size w5 w') rfl (by kernel_rfl) (Below.refl _ _).drew ?_ ; intro hS
          (refine mv_val 0 (v := ?_) rfl (by kernel_rfl) (by kernel_rfl) (by kernel_rfl) (fun _ _ _ h => h) (by rfl) hS ?_ ?_; rotate_left; (focus (intro w hSw; (try dsimp only at hSw); (have f0 := (hSw.block (d + 1) hd4).trans h3; obtain ⟨f1, f2, f3⟩ := three_cells f0; obtain ⟨f4, f5, f6⟩ := E4.out w (hSw.mono (by omega)); have f7 := hltI; have f8 := hlt; have f9 : (0 : Int) ≤ (i : Int) + 1 := by omega); go_simp; first | done | with_reducible rfl)); simp only [Act.put, List.setIfInBounds_toArray, List.set_cons_zero, List.set_cons_succ])
          (refine mv_val 1 (v := ?_) rfl (by kernel_rfl) (by kernel_rfl) (by kernel_rfl) (fun _ _ _ h => h) (by rfl) hS ?_ ?_; rotate_left; (focus (intro w hSw; (try dsimp only at hSw); (have f0 := (hSw.block (d + 1) hd4).trans h3; obtain ⟨f1, f2, f3⟩ := three_cells f0; obtain ⟨f4, f5, f6⟩ := E4.out w (hSw.mono (by omega)); have f7 := hltI; have f8 := hlt; have f9 : (0 : Int) ≤ (i : Int) + 1 := by omega); go_simp; first | done | with_reducible rfl)); simp only [Act.put, List.setIfInBounds_toArray, List.set_cons_zero, List.set_cons_succ])
          (refine mv_val 2 (v := ?_) rfl (by kernel_rfl) (by kernel_rfl) (by kernel_rfl) (fun _ _ _ h => h) (by rfl) hS ?_ ?_; rotate_left; (focus (intro w hSw; (try dsimp only at hSw); (have f0 := (hSw.block (d + 1) hd4).trans h3; obtain ⟨f1, f2, f3⟩ := three_cells f0; obtain ⟨f4, f5, f6⟩ := E4.out w (hSw.mono (by omega)); have f7 := hltI; have f8 := hlt; have f9 : (0 : Int) ≤ (i : Int) + 1 := by omega); go_simp; first | done | with_reducible rfl)); simp only [Act.put, List.setIfInBounds_toArray, List.set_cons_zero, List.set_cons_succ])
          (refine mv_val 3 (v := ?_) rfl (by kernel_rfl) (by kernel_rfl) (by kernel_rfl) (fun _ _ _ h => h) (by rfl) hS ?_ ?_; rotate_left; (focus (intro w hSw; (try dsimp only at hSw); (have f0 := (hSw.block (d + 1) hd4).trans h3; obtain ⟨f1, f2, f3⟩ := three_cells f0; obtain ⟨f4, f5, f6⟩ := E4.out w (hSw.mono (by omega)); have f7 := hltI; have f8 := hlt; have f9 : (0 : Int) ≤ (i : Int) + 1 := by omega); go_simp; first | done | with_reducible rfl)); simp only [Act.put, List.setIfInBounds_toArray, List.set_cons_zero, List.set_cons_succ])
          (refine mv_val 4 (v := ?_) rfl (by kernel_rfl) (by kernel_rfl) (by kernel_rfl) (fun _ _ _ h => h) (by rfl) hS ?_ ?_; rotate_left; (focus (intro w hSw; (try dsimp only at hSw); (have f0 := (hSw.block (d + 1) hd4).trans h3; obtain ⟨f1, f2, f3⟩ := three_cells f0; obtain ⟨f4, f5, f6⟩ := E4.out w (hSw.mono (by omega)); have f7 := hltI; have f8 := hlt; have f9 : (0 : Int) ≤ (i : Int) + 1 := by omega); go_simp; first | done | with_reducible rfl)); simp only [Act.put, List.setIfInBounds_toArray, List.set_cons_zero, List.set_cons_succ])
          (refine mv_call 5 (f := ?_) (args := ?_) rfl (by kernel_rfl) (by rfl) ?_ ?_; rotate_left 2; (focus (go_simp; first | done | with_reducible rfl | (refine ⟨?_, ?_⟩ <;> with_reducible rfl))))
          refine (HL2.out _).mono ?_; rintro e w6 ⟨rfl, hb6⟩
          have hS6 : Below w5.heap.size w5 w6 := hS.trans (hb6.mono hS.size)
          refine ⟨_, rfl, hS6, ?_⟩
          replace hS := hS6
          clear hS6
          simp only [Act.put, List.setIfInBounds_toArray, List.set_cons_zero, List.set_cons_succ]
          refine wpAnyH_done (by kernel_rfl) ?_ _
          have h0 := (hS.block _ (lt_of_block h0)).trans h0
          have h1 := (hS.block _ (lt_of_block h1)).trans h1
          have h2 := (hS.block _ (lt_of_block h2)).trans h2
          have h3 := (hS.block _ (lt_of_block h3)).trans h3
          have hrd6 := hrd4.below (hS.mono (show d ≤ w5.heap.size by omega))
          obtain ⟨e0, e1, e2⟩ := E4.out w6 (hS.mono (by omega))
          have hb06 : Below p w w6 := hb04.trans (hS.mono (Nat.le_trans hpw hb04.size))
          obtain ⟨n0, n1, n2⟩ := three_free h3
          obtain ⟨a0, a1, a2⟩ := three_cells h3
          have H0 := Lib.hid h0
          have H1 := Lib.hid h1
          have H2 := Lib.hid h2
          have H3 := Lib.hid h3
          have hx0 : (((i + 1 : Nat) : Int)) = (i : Int) + 1 := by omega
          clear hS hb6 h0 h1 h2 h3 hx0
          cases t2
          · go_wp2_with fail
            go_roundw
            case rel =>
              refine ⟨i + 1, x, y, by omega, by go_num, ?_, hrd6, H0.out, H1.out, H2.out, H3.out, hb06⟩
              rw [HS.out]; unfold bstepV; simp [← T1.out, ← T2.out]
            case measure => simp [intOf]; omega
          · go_wp2_with fail
            go_roundw
            case rel =>
              refine ⟨i + 1, x, v, by omega, by go_num, ?_, hrd6.below (three_below (Below.refl d w6) (show d ≤ d + 1 by omega) _ _ _), three_other H0.out (by omega) _ _ _, three_other H1.out (by omega) _ _ _, three_other H2.out (by omega) _ _ _, three_set H3.out _ _ _, three_below hb06 (by omega) _ _ _⟩
              rw [HS.out]; unfold bstepV; simp [← T1.out, ← T2.out]
            case measure => simp [intOf]; omega
        · obtain ⟨n0, n1, n2⟩ := three_free h2
          obtain ⟨a0, a1, a2⟩ := three_cells h2
          have H0 := Lib.hid h0
          have H1 := Lib.hid h1
          have H2 := Lib.hid h2
          have H3 := Lib.hid h3
          clear h0 h1 h2 h3
          go_wp2_with fail
          have h0 := three_other H0.out (show p ≠ d by omega) (.int .u8 (v.k : Int)) (.int .i64 v.n) (txt v.t)
          have h1 := three_other H1.out (show p + 1 ≠ d by omega) (.int .u8 (v.k : Int)) (.int .i64 v.n) (txt v.t)
          have h2 := three_set H2.out (.int .u8 (v.k : Int)) (.int .i64 v.n) (txt v.t)
          have h3 := three_other H3.out (show d + 1 ≠ d by omega) (.int .u8 (v.k : Int)) (.int .i64 v.n) (txt v.t)
          have hbs := three_below (Below.refl d w4) (Nat.le_refl d) (.int .u8 (v.k : Int)) (.int .i64 v.n) (txt v.t)
          have hb04 := three_below hb04 (show p ≤ d by omega) (.int .u8 (v.k : Int)) (.int .i64 v.n) (txt v.t)
          have hd5 := lt_of_block h3
          generalize (((w4.setCell ⟨d, 0, none⟩ (.int .u8 (v.k : Int))).setCell ⟨d, 1, none⟩ (.int .i64 v.n)).setCell ⟨d, 2, none⟩ (txt v.t)) = w5 at *
          have hrd4 := hrd4.below hbs
          have E4 := Lib.hid (fun (w' : World) (h : Below d w5 w') => E4.out w' (hbs.trans h))
          have hd4 : d + 1 < w5.heap.size := hd5
          clear e0 e1 e2 n0 n1 n2 a0 a1 a2 H0 H1 H2 H3 hbs
          refine ah_start 6 (fun w' => Below w5.heap.size w5 w') rfl (by kernel_rfl) (Below.refl _ _).drew ?_ ; intro hS
          (refine mv_val 0 (v := ?_) rfl (by kernel_rfl) (by kernel_rfl) (by kernel_rfl) (fun _ _ _ h => h) (by rfl) hS ?_ ?_; rotate_left; (focus (intro w hSw; (try dsimp only at hSw); (have f0 := (hSw.block (d + 1) hd4).trans h3; obtain ⟨f1, f2, f3⟩ := three_cells f0; obtain ⟨f4, f5, f6⟩ := E4.out w (hSw.mono (by omega)); have f7 := hltI; have f8 := hlt; have f9 : (0 : Int) ≤ (i : Int) + 1 := by omega); go_simp; first | done | with_reducible rfl)); simp only [Act.put, List.setIfInBounds_toArray, List.set_cons_zero, List.set_cons_succ])
          (refine mv_val 1 (v := ?_) rfl (by kernel_rfl) (by kernel_rfl) (by kernel_rfl) (fun _ _ _ h => h) (by rfl) hS ?_ ?_; rotate_left; (focus (intro w hSw; (try dsimp only at hSw); (have f0 := (hSw.block (d + 1) hd4).trans h3; obtain ⟨f1, f2, f3⟩ := three_cells f0; obtain ⟨f4, f5, f6⟩ := E4.out w (hSw.mono (by omega)); have f7 := hltI; have f8 := hlt; have f9 : (0 : Int) ≤ (i : Int) + 1 := by omega); go_simp; first | done | with_reducible rfl)); simp only [Act.put, List.setIfInBounds_toArray, List.set_cons_zero, List.set_cons_succ])
          (refine mv_val 2 (v := ?_) rfl (by kernel_rfl) (by kernel_rfl) (by kernel_rfl) (fun _ _ _ h => h) (by rfl) hS ?_ ?_; rotate_left; (focus (intro w hSw; (try dsimp only at hSw); (have f0 := (hSw.block (d + 1) hd4).trans h3; obtain ⟨f1, f2, f3⟩ := three_cells f0; obtain ⟨f4, f5, f6⟩ := E4.out w (hSw.mono (by omega)); have f7 := hltI; have f8 := hlt; have f9 : (0 : Int) ≤ (i : Int) + 1 := by omega); go_simp; first | done | with_reducible rfl)); simp only [Act.put, List.setIfInBounds_toArray, List.set_cons_zero, List.set_cons_succ])
          (refine mv_val 3 (v := ?_) rfl (by kernel_rfl) (by kernel_rfl) (by kernel_rfl) (fun _ _ _ h => h) (by rfl) hS ?_ ?_; rotate_left; (focus (intro w hSw; (try dsimp only at hSw); (have f0 := (hSw.block (d + 1) hd4).trans h3; obtain ⟨f1, f2, f3⟩ := three_cells f0; obtain ⟨f4, f5, f6⟩ := E4.out w (hSw.mono (by omega)); have f7 := hltI; have f8 := hlt; have f9 : (0 : Int) ≤ (i : Int) + 1 := by omega); go_simp; first | done | with_reducible rfl)); simp only [Act.put, List.setIfInBounds_toArray, List.set_cons_zero, List.set_cons_succ])
          (refine mv_val 4 (v := ?_) rfl (by kernel_rfl) (by kernel_rfl) (by kernel_rfl) (fun _ _ _ h => h) (by rfl) hS ?_ ?_; rotate_left; (focus (intro w hSw; (try dsimp only at hSw); (have f0 := (hSw.block (d + 1) hd4).trans h3; obtain ⟨f1, f2, f3⟩ := three_cells f0; obtain ⟨f4, f5, f6⟩ := E4.out w (hSw.mono (by omega)); have f7 := hltI; have f8 := hlt; have f9 : (0 : Int) ≤ (i : Int) + 1 := by omega); go_simp; first | done | with_reducible rfl)); simp only [Act.put, List.setIfInBounds_toArray, List.set_cons_zero, List.set_cons_succ])
          (refine mv_call 5 (f := ?_) (args := ?_) rfl (by kernel_rfl) (by rfl) ?_ ?_; rotate_left 2; (focus (go_simp; first | done | with_reducible rfl | (refine ⟨?_, ?_⟩ <;> with_reducible rfl))))
          refine (HL2.out _).mono ?_; rintro e w6 ⟨rfl, hb6⟩
          have hS6 : Below w5.heap.size w5 w6 := hS.trans (hb6.mono hS.size)
          refine ⟨_, rfl, hS6, ?_⟩
          replace hS := hS6
          clear hS6
          simp only [Act.put, List.setIfInBounds_toArray, List.set_cons_zero, List.set_cons_succ]
          refine wpAnyH_done (by kernel_rfl) ?_ _
          have h0 := (hS.block _ (lt_of_block h0)).trans h0
          have h1 := (hS.block _ (lt_of_block h1)).trans h1
          have h2 := (hS.block _ (lt_of_block h2)).trans h2
          have h3 := (hS.block _ (lt_of_block h3)).trans h3
          have hrd6 := hrd4.below (hS.mono (show d ≤ w5.heap.size by omega))
          obtain ⟨e0, e1, e2⟩ := E4.out w6 (hS.mono (by omega))
          have hb06 : Below p w w6 := hb04.trans (hS.mono (Nat.le_trans hpw hb04.size))
          obtain ⟨n0, n1, n2⟩ := three_free h3
          obtain ⟨a0, a1, a2⟩ := three_cells h3
          have H0 := Lib.hid h0
          have H1 := Lib.hid h1
          have H2 := Lib.hid h2
          have H3 := Lib.hid h3
          have hx0 : (((i + 1 : Nat) : Int)) = (i : Int) + 1 := by omega
          clear hS hb6 h0 h1 h2 h3 hx0
          cases t2
          · go_wp2_with fail
            go_roundw
            case rel =>
              refine ⟨i + 1, v, y, by omega, by go_num, ?_, hrd6, H0.out, H1.out, H2.out, H3.out, hb06⟩
              rw [HS.out]; unfold bstepV; simp [← T1.out, ← T2.out]
            case measure => simp [intOf]; omega
          · go_wp2_with fail
            go_roundw
            case rel =>
              refine ⟨i + 1, v, v, by omega, by go_num, ?_, hrd6.below (three_below (Below.refl d w6) (show d ≤ d + 1 by omega) _ _ _), three_other H0.out (by omega) _ _ _, three_other H1.out (by omega) _ _ _, three_other H2.out (by omega) _ _ _, three_set H3.out _ _ _, three_below hb06 (by omega) _ _ _⟩
              rw [HS.out]; unfold bstepV; simp [← T1.out, ← T2.out]
            case measure => simp [intOf]; omega
    obtain ⟨v, hv⟩ : ∃ v, l[k]? = some v := ⟨_, List.getElem?_eq_getElem (by rw [← HN.out]; exact hlt)⟩
    obtain ⟨gb, go, rfl, hgb, q0, q1, q2⟩ := rd_val hl hv
    have r0 := (hbel.cell (p := ⟨gb, go + k * 3, none⟩) (by show gb < _; omega)).trans q0
    have r1 := (hbel.cell (p := ⟨gb, go + k * 3 + 1, none⟩) (by show gb < _; omega)).trans q1
    have r2 := (hbel.cell (p := ⟨gb, go + k * 3 + 2, none⟩) (by show gb < _; omega)).trans q2
    have hkI : (k : Int) < (n : Int) := by omega
    have hms := marks_snoc hv
    rw [← HM.out] at hms
    have HMS := Lib.hid hms
    clear q0 q1 q2 hv hms h0 h1
    by_cases hv0 : v.k = 0
    · have hI1 : ((v.k : Int) != 0) = false := by simp; omega
      have HV0 := Lib.hid hv0
      clear hv0
      go_wp2_with fail
      go_roundw
      case rel => exact ⟨k + 1, m, by omega, by go_num, by rw [HMS.out, if_pos (by simp [HV0.out]), List.append_nil], by omega, hown, H0.out, H1.out, hpr, hbel⟩
      case measure => simp [intOf]; omega
    have hI1 : ((v.k : Int) != 0) = true := by simp; omega
    have HV0 := Lib.hid hv0
    clear hv0
    go_wp2_with (at_builtin; refine wpList_app HEL rfl _ _ rfl (hown.alloc _) rfl rfl (cv_three v rfl) rfl (cv_one _) (by unfold maxLen; omega) (by have : (m.length + 1) * by_ ≤ 4294967297 * 64 := Nat.mul_le_mul (by omega) hby; omega) (by simp; omega) ?_; intro v8 w8 hown8 hg8 ho8)
    have hb8 : Below p w w8 := (hbel.alloc (by omega) _).trans ((own_below (hown.alloc _) hg8 (by simp; omega)).mono (by omega))
    have hz8 : wr.heap.size + 1 ≤ w8.heap.size := by have := hg8.size; simp at this; omega
    go_roundw
    case rel =>
      refine ⟨k + 1, m ++ [v], by omega, by go_num, by rw [HMS.out, if_neg (by simp [HV0.out])], by simp; omega, ?_, ?_, ?_, by omega, hb8⟩
      · rw [List.length_append, List.length_singleton, vcells_snoc]; exact hown8
      · exact grown_block hg8 (block_al H0.out _) (fun e => by have := (hown.lt _ e).1; omega)
      · exact grown_block hg8 (block_al H1.out _) (fun e => by have := (hown.lt _ e).1; omega)
    case measure => simp [intOf]; omega
end Go.Proofs.Ythkpgjcnnfdibaa

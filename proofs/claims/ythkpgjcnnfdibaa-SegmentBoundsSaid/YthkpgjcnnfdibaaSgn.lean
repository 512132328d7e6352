/- Joined texts: see the remark ahead of each part. No condition but those that the parts name. -/
import Derived.Test.YthkpgjcnnfdibaaCRd
import Derived.Test.YthkpgjcnnfdibaaCoQ
import Derived.Test.YthkpgjcnnfdibaaSgm
import Derived.Deep.DeepCutAuto
/-! Plain laws of layer 6 on least and greatest values. No program in sight. -/
namespace Go.Proofs.Ythkpgjcnnfdibaa
open Go.RowKit
set_option linter.unusedVariables false

theorem bl_trans : ∀ a b c : List UInt8, bl a b = true → bl b c = true → bl a c = true
  | a, b, [], h1, h2 => by rw [bl_nil] at h2; cases h2
  | a, [], c :: z, h1, h2 => by rw [bl_nil] at h1; cases h1
  | [], b :: y, c :: z, h1, h2 => rfl
  | a :: x, b :: y, c :: z, h1, h2 => by
    rw [bl_cc] at *
    simp only [Bool.or_eq_true, decide_eq_true_eq, Bool.and_eq_true, beq_iff_eq, UInt8.lt_iff_toNat_lt] at *
    rcases h1 with h1 | ⟨rfl, h1⟩
    · rcases h2 with h2 | ⟨rfl, h2⟩
      · left; omega
      · left; exact h1
    · rcases h2 with h2 | ⟨rfl, h2⟩
      · left; exact h2
      · right; exact ⟨rfl, bl_trans x y z h1 h2⟩
theorem bl_ntrans : ∀ a b c : List UInt8, bl a b = false → bl b c = false → bl a c = false
  | a, b, [], _, _ => bl_nil a
  | a, [], c :: z, h1, h2 => by rw [bl_nc] at h2; cases h2
  | [], b :: y, c :: z, h1, h2 => by rw [bl_nc] at h1; cases h1
  | a :: x, b :: y, c :: z, h1, h2 => by
    rw [bl_cc] at *
    simp only [Bool.or_eq_false_iff, decide_eq_false_iff_not, Bool.and_eq_false_iff, beq_eq_false_iff_ne, UInt8.lt_iff_toNat_lt] at *
    obtain ⟨p1, p2⟩ := h1
    obtain ⟨q1, q2⟩ := h2
    refine ⟨by omega, ?_⟩
    by_cases hac : a = c
    · right
      subst hac
      have hab : a = b := UInt8.toNat_inj.1 (by omega)
      subst hab
      rcases p2 with p2 | p2
      · exact absurd rfl p2
      rcases q2 with q2 | q2
      · exact absurd rfl q2
      exact bl_ntrans x y z p2 q2
    · left; exact hac
theorem lessV_bl {v w : V} (hv : good v) (hw : good w) : lessV v w = bl (kone v) (kone w) := by
  by_cases h : v = w
  · subst h; rw [less_same, bl_self]
  · have := kone_less v w [] [] hv hw h
    rw [List.append_nil, List.append_nil] at this
    exact this.symm
def lo (x v : V) : V := if lessV v x = true then v else x
def hi (y v : V) : V := if lessV y v = true then v else y
theorem fold_pair : ∀ (r : List V) (x y : V), r.foldl bstepV (x, y) = (r.foldl lo x, r.foldl hi y)
  | [], x, y => rfl
  | v :: r, x, y => by
    rw [List.foldl_cons, List.foldl_cons, List.foldl_cons, ← fold_pair r]; rfl
theorem lo_spec : ∀ (r : List V) (x : V), (∀ v ∈ x :: r, good v) → r.foldl lo x ∈ x :: r ∧ ∀ v ∈ x :: r, lessV v (r.foldl lo x) = false
  | [], x, h => ⟨List.mem_cons_self .., fun v hv => by simp at hv; rw [hv]; exact less_same⟩
  | u :: r, x, h => by
    have hx := h x (List.mem_cons_self ..)
    have hu := h u (List.mem_cons_of_mem _ (List.mem_cons_self ..))
    have hr : ∀ v ∈ r, good v := fun v hv => h v (List.mem_cons_of_mem _ (List.mem_cons_of_mem _ hv))
    rw [List.foldl_cons]
    by_cases hl : lessV u x = true
    · have e : lo x u = u := by unfold lo; rw [if_pos hl]
      rw [e]
      obtain ⟨i1, i2⟩ := lo_spec r u (fun v hv => by
        rcases List.mem_cons.1 hv with rfl | hv
        · exact hu
        · exact hr v hv)
      have hg : good (r.foldl lo u) := by
        rcases List.mem_cons.1 i1 with h | h
        · rw [h]; exact hu
        · exact hr _ h
      refine ⟨List.mem_cons_of_mem _ i1, fun v hv => ?_⟩
      rcases List.mem_cons.1 hv with rfl | hv
      · have h2 := i2 u (List.mem_cons_self ..)
        cases h3 : lessV v (r.foldl lo u)
        · rfl
        · rw [lessV_bl hu hx] at hl
          rw [lessV_bl hx hg] at h3
          rw [lessV_bl hu hg] at h2
          rw [bl_trans _ _ _ hl h3] at h2; exact h2
      · exact i2 v hv
    · have e : lo x u = x := by unfold lo; rw [if_neg hl]
      rw [e]
      obtain ⟨i1, i2⟩ := lo_spec r x (fun v hv => by
        rcases List.mem_cons.1 hv with rfl | hv
        · exact hx
        · exact hr v hv)
      have hg : good (r.foldl lo x) := by
        rcases List.mem_cons.1 i1 with h | h
        · rw [h]; exact hx
        · exact hr _ h
      refine ⟨?_, fun v hv => ?_⟩
      · rcases List.mem_cons.1 i1 with h | h
        · rw [h]; exact List.mem_cons_self ..
        · exact List.mem_cons_of_mem _ (List.mem_cons_of_mem _ h)
      · rcases List.mem_cons.1 hv with rfl | hv
        · exact i2 _ (List.mem_cons_self ..)
        rcases List.mem_cons.1 hv with rfl | hv
        · have hl' : lessV v x = false := by simpa using hl
          rw [lessV_bl hu hx] at hl'
          have h2 := i2 x (List.mem_cons_self ..)
          rw [lessV_bl hx hg] at h2
          rw [lessV_bl hu hg]
          exact bl_ntrans _ _ _ hl' h2
        · exact i2 v (List.mem_cons_of_mem _ hv)
theorem hi_spec : ∀ (r : List V) (x : V), (∀ v ∈ x :: r, good v) → r.foldl hi x ∈ x :: r ∧ ∀ v ∈ x :: r, lessV (r.foldl hi x) v = false
  | [], x, h => ⟨List.mem_cons_self .., fun v hv => by simp at hv; rw [hv]; exact less_same⟩
  | u :: r, x, h => by
    have hx := h x (List.mem_cons_self ..)
    have hu := h u (List.mem_cons_of_mem _ (List.mem_cons_self ..))
    have hr : ∀ v ∈ r, good v := fun v hv => h v (List.mem_cons_of_mem _ (List.mem_cons_of_mem _ hv))
    rw [List.foldl_cons]
    by_cases hl : lessV x u = true
    · have e : hi x u = u := by unfold hi; rw [if_pos hl]
      rw [e]
      obtain ⟨i1, i2⟩ := hi_spec r u (fun v hv => by
        rcases List.mem_cons.1 hv with rfl | hv
        · exact hu
        · exact hr v hv)
      have hg : good (r.foldl hi u) := by
        rcases List.mem_cons.1 i1 with h | h
        · rw [h]; exact hu
        · exact hr _ h
      refine ⟨List.mem_cons_of_mem _ i1, fun v hv => ?_⟩
      rcases List.mem_cons.1 hv with rfl | hv
      · have h2 := i2 u (List.mem_cons_self ..)
        cases h3 : lessV (r.foldl hi u) v
        · rfl
        · rw [lessV_bl hx hu] at hl
          rw [lessV_bl hg hx] at h3
          rw [lessV_bl hg hu] at h2
          rw [bl_trans _ _ _ h3 hl] at h2; exact h2
      · exact i2 v hv
    · have e : hi x u = x := by unfold hi; rw [if_neg hl]
      rw [e]
      obtain ⟨i1, i2⟩ := hi_spec r x (fun v hv => by
        rcases List.mem_cons.1 hv with rfl | hv
        · exact hx
        · exact hr v hv)
      have hg : good (r.foldl hi x) := by
        rcases List.mem_cons.1 i1 with h | h
        · rw [h]; exact hx
        · exact hr _ h
      refine ⟨?_, fun v hv => ?_⟩
      · rcases List.mem_cons.1 i1 with h | h
        · rw [h]; exact List.mem_cons_self ..
        · exact List.mem_cons_of_mem _ (List.mem_cons_of_mem _ h)
      · rcases List.mem_cons.1 hv with rfl | hv
        · exact i2 _ (List.mem_cons_self ..)
        rcases List.mem_cons.1 hv with rfl | hv
        · have hl' : lessV x v = false := by simpa using hl
          rw [lessV_bl hx hu] at hl'
          have h2 := i2 x (List.mem_cons_self ..)
          rw [lessV_bl hg hx] at h2
          rw [lessV_bl hg hu]
          exact bl_ntrans _ _ _ h2 hl'
        · exact i2 v (List.mem_cons_of_mem _ hv)
/-- the least and the greatest value: marks, if there are any; nothing is below, nothing above -/
theorem bndV_spec {l : List V} (h : ∀ v ∈ l, good v) : (marks l = [] ∧ bndV l = (null, null)) ∨ (marks l ≠ [] ∧ (bndV l).1 ∈ marks l ∧ (bndV l).2 ∈ marks l ∧ ∀ v ∈ marks l, lessV v (bndV l).1 = false ∧ lessV (bndV l).2 v = false) := by
  have hm : ∀ v ∈ marks l, good v := fun v hv => h v (mem_marks.1 hv).1
  unfold bndV
  cases e : marks l with
  | nil => exact .inl ⟨rfl, rfl⟩
  | cons v r =>
    right
    rw [e] at hm
    have h1 := lo_spec r v hm
    have h2 := hi_spec r v hm
    rw [show bndM (v :: r) = r.foldl bstepV (v, v) from rfl, fold_pair]
    exact ⟨by simp, h1.1, h2.1, fun u hu => ⟨h1.2 u hu, h2.2 u hu⟩⟩
theorem marks_take_sub {l : List V} {k : Nat} {v : V} (h : v ∈ marks (l.take k)) : v ∈ marks l :=
  mem_marks.2 ⟨List.mem_of_mem_take (mem_marks.1 h).1, (mem_marks.1 h).2⟩
end Go.Proofs.Ythkpgjcnnfdibaa

/-! The walk of SegmentBounds (layer 7). No condition. Printed by gen_sgl4.py. -/
namespace Go.Proofs.Ythkpgjcnnfdibaa
open Go.RowKit Go.Maps
set_option linter.unusedVariables false
set_option linter.unusedSimpArgs false

theorem eq_parts (v x : V) : (decide ((v.k : Int) = (x.k : Int)) && (decide (v.n = x.n) && decide (v.t = x.t))) = decide (v = x) := by
  obtain ⟨k, n, t⟩ := v
  obtain ⟨k', n', t'⟩ := x
  rw [Bool.eq_iff_iff]
  simp only [Bool.and_eq_true, decide_eq_true_eq, V.mk.injEq]
  constructor
  · rintro ⟨h1, h2, h3⟩; exact ⟨by omega, h2, h3⟩
  · rintro ⟨h1, h2, h3⟩; exact ⟨by omega, h2, h3⟩
theorem mem_more {x v : V} {m : List V} (h : false = decide (x ∈ m)) : decide (v = x) = decide (x ∈ m ++ [v]) := by
  have hn : x ∉ m := of_decide_eq_false h.symm
  apply decide_eq_decide.2
  rw [List.mem_append]
  constructor
  · intro e; right; rw [e]; simp
  · rintro (h | h)
    · exact absurd h hn
    · simp at h; exact h.symm
theorem mem_yes {x v : V} {m : List V} (h : true = decide (x ∈ m)) : true = decide (x ∈ m ++ [v]) := by
  have hn : x ∈ m := of_decide_eq_true h.symm
  exact (decide_eq_true (List.mem_append.2 (.inl hn))).symm
/-- what least and greatest values of a column are -/
def LieSpec (l : List V) (x y : V) : Prop := (marks l = [] ∧ x = null ∧ y = null) ∨ (marks l ≠ [] ∧ x ∈ marks l ∧ y ∈ marks l ∧ ∀ v ∈ marks l, lessV v x = false ∧ lessV y v = false)
theorem lie_spec {T : List UInt8} {rows : List (List V)} (hF : Fits T rows) (hk : knownT T = true) (hro : rowsOk T rows = true) {i : Nat} (hi : i < T.length) :
    ∃ x y, (least (colsOf T.length rows))[i]? = some x ∧ (greatest (colsOf T.length rows))[i]? = some y ∧ LieSpec (colAt rows i) x y := by
  have hc := hF.cols hk hro
  have hci := colsOf_at rows hi
  have hg := hc.good (List.mem_of_getElem? hci)
  refine ⟨(bnds (colAt rows i)).1, (bnds (colAt rows i)).2, by unfold least; rw [List.getElem?_map, hci]; rfl, by unfold greatest; rw [List.getElem?_map, hci]; rfl, ?_⟩
  rw [bnds_eq _ hg]
  rcases bndV_spec hg with ⟨h1, h2⟩ | h
  · exact .inl ⟨h1, by rw [h2], by rw [h2]⟩
  · exact .inr h
theorem lie_get {rows : List (List V)} {i k : Nat} {v : V} {r : List V} (hr : rows[k]? = some r) (hv : r[i]? = some v) : (colAt rows i)[k]? = some v := by rw [colAt_at hr, hv]; rfl
set_option maxHeartbeats 16000000 in
set_option maxRecDepth 100000 in
theorem segmentBounds_walk (A : Option Addr) (c : Nat) (T : List UInt8) (A' : Option Addr) (c' : Nat) (rows : List (List V)) (W : World) (hT : Rd W W.heap.size A (cells T)) (hTc : T.length ≤ c ∧ c ≤ maxLen)
    (hr : RdVV W W.heap.size A' rows) (hrc : rows.length ≤ c' ∧ c' ≤ maxLen) (hv : ∀ r ∈ rows, r.length ≤ maxLen ∧ ∀ v ∈ r, vok v) :
    Calls Try.prog 6 #[.slice A T.length c, .slice A' rows.length c'] W fun e w' => e = .returned (.bool true) ∧ Below W.heap.size W w' := by
  have KL := long7_any W.heap.size A A' c c' T rows W hr (Nat.le_refl _) (by omega) (by omega)
  by_cases hlg : lng7 T rows = true
  case pos =>
    rw [hlg] at KL
    have HL := Lib.hid KL
    clear KL hlg
    go_enter Try.func6, Try.ntmps6
    go_wp2_with fail
    refine HL.out.mono ?_; rintro e w1 ⟨rfl, hq⟩
    subst hq
    go_wp2_with fail
    go_ret
    exact ⟨rfl, Below.refl _ _⟩
  have hlf : lng7 T rows = false := by simpa using hlg
  rw [hlf] at KL
  have HL := Lib.hid KL
  have hF := fits_of hlf hv
  have hTl := hF.t
  have hRl := hF.n
  have KY := Lib.hid (may7_any W.heap.size A A' c c' T rows W hT hr (Nat.le_refl _) (by omega) (by omega) (fun r hr => ⟨(hv r hr).1, fun v hv2 => ((hv r hr).2 v hv2).1⟩))
  by_cases hmay : (knownT T && rowsOk T rows) = true
  case neg =>
    have hm0 : (knownT T && rowsOk T rows) = false := by simpa using hmay
    rw [hm0] at KY
    clear hmay hm0 KL hlg hlf
    go_enter Try.func6, Try.ntmps6
    go_wp2_with fail
    refine HL.out.mono ?_; rintro e w1 ⟨rfl, hq⟩
    subst hq
    go_wp2_with fail
    refine KY.out.mono ?_; rintro e w1 ⟨rfl, hb1⟩
    go_wp2_with fail
    go_ret
    exact ⟨rfl, hb1⟩
  obtain ⟨hk1, hk2⟩ : knownT T = true ∧ rowsOk T rows = true := by rw [Bool.and_eq_true] at hmay; exact hmay
  rw [hmay] at KY
  have hc := hF.cols hk1 hk2
  have hsz := hF.size hk1 hk2
  obtain ⟨q, e1, e2, e3, e4, e5, e6, e7, e8⟩ := back_make hF hk1 hk2
  have hso := sopen_put hk1 (by omega) hc (by omega)
  rw [← e8] at hso
  clear e8
  have KM := Lib.hid (fun (w' : World) (h : Below W.heap.size W w') => smake_any W.heap.size A A' c c' T rows w' (hT.below h) (hr.below h) h.size (by omega) (by omega) hF.rowb (fun h1 h2 _ => by have := hF.size h1 h2; omega))
  rw [e1] at KM
  have KB := Lib.hid (fun (w' : World) (A3 : Option Addr) (c3 : Nat) (h : Below W.heap.size W w') (h2 : RdBB w' w'.heap.size A3 q) => sgbounds_any A A3 c c3 T q w' ((hT.below h).more h.size) h2 (by omega) (by omega) e6 e7)
  rw [hso] at KB
  have HSP := Lib.hid (fun (i : Nat) (hi : i < T.length) => lie_spec hF hk1 hk2 hi)
  have HRL := Lib.hid (show ∀ r ∈ rows, r.length = T.length from fun r hr => rowok_len (rowsOk_mem hk2 r hr))
  have hll : (least (colsOf T.length rows)).length = T.length := by rw [least_length, colsOf_length]
  have hgl : (greatest (colsOf T.length rows)).length = T.length := by rw [greatest_length, colsOf_length]
  obtain ⟨lo, hlo⟩ : ∃ l, l = least (colsOf T.length rows) := ⟨_, rfl⟩
  obtain ⟨hi, hhi⟩ : ∃ l, l = greatest (colsOf T.length rows) := ⟨_, rfl⟩
  rw [← hlo, ← hhi] at KB HSP
  rw [← hlo] at hll
  rw [← hhi] at hgl
  have hlI : ((lo.length : Int) != (T.length : Int)) = false := by simp; omega
  have hgI : ((hi.length : Int) != (T.length : Int)) = false := by simp; omega
  have HLL := Lib.hid hll
  have HGL := Lib.hid hgl
  clear KL hlg hlf hF hTc hrc hv hmay hk1 hk2 hc hsz e1 e2 e3 e5 e6 e7 hso hlo hhi hll hgl hT
  go_enter Try.func6, Try.ntmps6
  go_wp2_with fail
  refine HL.out.mono ?_; rintro e w1 ⟨rfl, hq⟩
  subst hq
  go_wp2_with fail
  refine KY.out.mono ?_; rintro e w1 ⟨rfl, hb1⟩
  have K2 := Lib.hid (KM.out w1 hb1)
  clear KY KM HL
  go_wp2_with fail
  refine K2.out.mono ?_; rintro e w2 ⟨A2, c2, rfl, own2, hb2⟩
  have hb02 := hb1.trans (hb2.mono hb1.size)
  have K3 := Lib.hid (KB.out w2 A2 c2 hb02 own2.rd)
  clear K2 own2 hb2 hb1 KB
  dsimp only
  go_wp2_with fail
  refine K3.out.mono ?_; rintro e w4 ⟨A6, c6, A7, c7, rfl, rlo, rhi, hb4⟩
  have hb04 := hb02.trans (hb4.mono hb02.size)
  have RLO := Lib.hid rlo
  have RHI := Lib.hid rhi
  dsimp only at RLO RHI ⊢
  have hz4 := hb04.size
  clear K3 rlo rhi hb4 hb02
  go_wp2_with fail
  go_loopw [10] (fun v10 wr => ∃ i : Nat, i ≤ T.length ∧ v10 = .int .i64 i ∧ Below w4.heap.size w4 wr) (fun v10 _ => T.length - (intOf v10).toNat)
  case atStart => exact ⟨0, by omega, rfl, Below.refl _ _⟩
  case round =>
    obtain ⟨i, hiT, rfl, hbel⟩ := hrel
    by_cases hlt : i < T.length
    case neg =>
      have hge : (T.length : Int) ≤ (i : Int) := by omega
      go_wp2_with fail
      refine (makes_any wr).mono ?_; rintro e w8 ⟨rfl, hb8⟩
      have hbz : Below W.heap.size W wr := hb04.trans (hbel.mono hz4)
      go_wp2_with fail
      go_ret
      exact ⟨rfl, hbz.trans (hb8.mono hbz.size)⟩
    obtain ⟨x, y, hx, hy, hsp⟩ := HSP.out i hlt
    obtain ⟨ga, oa, hA6, hga, a0, a1, a2⟩ := rd_val RLO.out hx
    subst hA6
    obtain ⟨gb, ob, hA7, hgb, b0, b1, b2⟩ := rd_val RHI.out hy
    subst hA7
    have HS := Lib.hid hsp
    have FX := Lib.hid (fun (w' : World) (h : Below w4.heap.size w4 w') => And.intro (cell_be a0 h hga) (And.intro (cell_be a1 h hga) (cell_be a2 h hga)))
    have FY := Lib.hid (fun (w' : World) (h : Below w4.heap.size w4 w') => And.intro (cell_be b0 h hgb) (And.intro (cell_be b1 h hgb) (cell_be b2 h hgb)))
    have hil : i < lo.length := by rw [HLL.out]; exact hlt
    have hih : i < hi.length := by rw [HGL.out]; exact hlt
    have hilI : (i : Int) < (lo.length : Int) := by omega
    have hihI : (i : Int) < (hi.length : Int) := by omega
    have hiI : (i : Int) < (T.length : Int) := by omega
    have hln := colAt_length rows i
    obtain ⟨l, hl⟩ : ∃ l, l = colAt rows i := ⟨_, rfl⟩
    have HLD := Lib.hid hl
    have HLN := Lib.hid (show l.length = rows.length by rw [hl]; exact hln)
    rw [← hl] at HS
    clear hx hy hsp a0 a1 a2 b0 b1 b2 hl hln
    obtain ⟨wq, hwq⟩ : ∃ w2, w2 = wr := ⟨_, rfl⟩
    subst hwq
    go_wp2_with fail
    go_loopw [11, 12, 13, 14] (fun v11 v12 v13 v14 wr => ∃ (k : Nat) (lb gb hb : Bool), k ≤ rows.length ∧ v14 = .int .i64 k ∧ v11 = .bool lb ∧ v12 = .bool gb ∧ v13 = .bool hb ∧ lb = decide (x ∈ marks (l.take k)) ∧ gb = decide (y ∈ marks (l.take k)) ∧ hb = decide (marks (l.take k) ≠ []) ∧ Below w4.heap.size w4 wr) (fun _ _ _ v14 _ => rows.length - (intOf v14).toNat)
    case atStart => exact ⟨0, false, false, false, by omega, rfl, rfl, rfl, rfl, by simp [marks], by simp [marks], by simp [marks], hbel⟩
    case round =>
      obtain ⟨k, lb, gb, hb, hk, rfl, rfl, rfl, rfl, hlb, hgb2, hhb, hbel2⟩ := hrel
      have HLB := Lib.hid hlb
      have HGB := Lib.hid hgb2
      have HHB := Lib.hid hhb
      have hzr := hbel2.size
      clear hlb hgb2 hhb hbel
      by_cases hkt : k < rows.length
      case neg =>
        have hkn : k = rows.length := by omega
        have hge : (rows.length : Int) ≤ (k : Int) := by omega
        have hm : l.take k = l := by rw [hkn, ← HLN.out, List.take_length]
        obtain ⟨p0, p1, p2⟩ := FX.out wr hbel2
        obtain ⟨q0, q1, q2⟩ := FY.out wr hbel2
        rcases HS.out with ⟨hm0, rfl, rfl⟩ | ⟨hm0, hx, hy, _⟩
        · obtain rfl : hb = false := by rw [HHB.out, hm, hm0]; rfl
          simp only [null] at p0 p1 p2 q0 q1 q2
          clear hm hm0 hkn
          go_wp2_with fail
          go_roundw
          case rel => exact ⟨i + 1, by omega, by go_num, hbel2⟩
          case measure => simp [intOf]; omega
        · obtain rfl : hb = true := by rw [HHB.out, hm]; exact decide_eq_true hm0
          obtain rfl : lb = true := by rw [HLB.out, hm]; exact decide_eq_true hx
          obtain rfl : gb = true := by rw [HGB.out, hm]; exact decide_eq_true hy
          clear hm hm0 hkn hx hy
          go_wp2_with fail
          go_roundw
          case rel => exact ⟨i + 1, by omega, by go_num, hbel2⟩
          case measure => simp [intOf]; omega
      obtain ⟨r, hr0⟩ : ∃ r, rows[k]? = some r := ⟨_, List.getElem?_eq_getElem hkt⟩
      have hrl := HRL.out r (List.mem_of_getElem? hr0)
      obtain ⟨v, hv⟩ : ∃ v, r[i]? = some v := ⟨_, List.getElem?_eq_getElem (by omega)⟩
      obtain ⟨gc, oc, c1, cc, hgC, hgc, s0, _, hra⟩ := rdN_at hr hr0
      subst hgC
      obtain ⟨gr, or, hgR, hgr, t0, t1, t2⟩ := rd_val hra hv
      subst hgR
      have hb0r : Below W.heap.size W wr := hb04.trans (hbel2.mono hz4)
      have s0' := cell_be s0 hb0r hgc
      have t0' := cell_be t0 hb0r hgr
      have t1' := cell_be t1 hb0r hgr
      have t2' := cell_be t2 hb0r hgr
      have hlv : l[k]? = some v := by rw [HLD.out]; exact lie_get hr0 hv
      have hms := marks_snoc hlv
      have hvm : v.k ≠ 0 → v ∈ marks l := fun h => mem_marks.2 ⟨List.mem_of_getElem? hlv, h⟩
      have hkI : (k : Int) < (rows.length : Int) := by omega
      have hir : i < r.length := by omega
      have hirI : (i : Int) < (r.length : Int) := by omega
      have HMS := Lib.hid hms
      have HVM := Lib.hid hvm
      clear hms hvm hlv s0 t0 t1 t2 hr0 hv hra hrl
      by_cases hv0 : v.k = 0
      · have hI0 : ((v.k : Int) == 0) = true := by simp; omega
        have e : marks (l.take (k + 1)) = marks (l.take k) := by rw [HMS.out, if_pos (by simp [hv0]), List.append_nil]
        have HE := Lib.hid e
        clear hv0 e
        go_wp2_with fail
        go_roundw
        case rel => exact ⟨k + 1, lb, gb, hb, by omega, by go_num, rfl, rfl, rfl, by rw [HE.out]; exact HLB.out, by rw [HE.out]; exact HGB.out, by rw [HE.out]; exact HHB.out, hbel2.alloc hzr _⟩
        case measure => simp [intOf]; omega
      have hI0 : ((v.k : Int) == 0) = false := by simp; omega
      have e : marks (l.take (k + 1)) = marks (l.take k) ++ [v] := by rw [HMS.out, if_neg (by simp [hv0])]
      have hvm := HVM.out hv0
      have hless : lessV v x = false ∧ lessV y v = false := by
        rcases HS.out with ⟨h, _⟩ | ⟨_, _, _, h⟩
        · rw [h] at hvm; cases hvm
        · exact h v hvm
      have L1 := fun w => Less_any v x w
      have L2 := fun w => Less_any y v w
      rw [hless.1] at L1
      rw [hless.2] at L2
      have HL1 := Lib.hid L1
      have HL2 := Lib.hid L2
      have HE := Lib.hid e
      have HH := Lib.hid (show true = decide (marks (l.take (k + 1)) ≠ []) by rw [e]; simp)
      have hex : (decide ((v.k : Int) = (x.k : Int)) && (decide (v.n = x.n) && decide (v.t = x.t))) = decide (v = x) := eq_parts v x
      have hey : (decide ((v.k : Int) = (y.k : Int)) && (decide (v.n = y.n) && decide (v.t = y.t))) = decide (v = y) := eq_parts v y
      obtain ⟨we, hwe⟩ : ∃ we, we = wr.alloc (.cells #[.int .u8 (v.k : Int), .int .i64 v.n, txt v.t] 46) := ⟨_, rfl⟩
      obtain ⟨m0, m1, m2⟩ := cv_block wr (.int .u8 (v.k : Int)) (.int .i64 v.n) (txt v.t) 46
      rw [← hwe] at m0 m1 m2
      have hbe : Below w4.heap.size w4 we := by rw [hwe]; exact hbel2.alloc hzr _
      have HBE := Lib.hid hbe
      have FV := Lib.hid (fun (w' : World) (h : Below we.heap.size we w') => And.intro (cell_be m0 h (cell_lt m0)) (And.intro (cell_be m1 h (cell_lt m1)) (cell_be m2 h (cell_lt m2))))
      have HX := Lib.hid (fun (w' : World) (h : Below we.heap.size we w') => FX.out w' (hbe.trans (h.mono hbe.size)))
      have HY := Lib.hid (fun (w' : World) (h : Below we.heap.size we w') => FY.out w' (hbe.trans (h.mono hbe.size)))
      have HWE := Lib.hid hwe
      clear hv0 e hvm hless L1 L2 m0 m1 m2 hwe hbe
      cases lb
      · cases gb
        · skip
          go_upto_region 17 with fail
          rw [← HWE.out]
          refine ah_start 10 (fun w' => Below we.heap.size we w') rfl (by kernel_rfl) (Below.refl _ _).drew ?_ ; intro hS
          (refine mv_val 0 (v := ?_) rfl (by kernel_rfl) (by kernel_rfl) (by kernel_rfl) (fun _ _ _ h => h) (by rfl) hS ?_ ?_; rotate_left; (focus (intro w hSw; (try dsimp only at hSw); (obtain ⟨f1, f2, f3⟩ := HX.out w hSw; obtain ⟨f4, f5, f6⟩ := FV.out w hSw; have f7 := hil; have f8 := hih; have f9 := hilI; have g9 := hihI); go_simp; first | done | with_reducible rfl)); simp only [Act.put, List.setIfInBounds_toArray, List.set_cons_zero, List.set_cons_succ])
          (refine mv_val 1 (v := ?_) rfl (by kernel_rfl) (by kernel_rfl) (by kernel_rfl) (fun _ _ _ h => h) (by rfl) hS ?_ ?_; rotate_left; (focus (intro w hSw; (try dsimp only at hSw); (obtain ⟨f1, f2, f3⟩ := HX.out w hSw; obtain ⟨f4, f5, f6⟩ := FV.out w hSw; have f7 := hil; have f8 := hih; have f9 := hilI; have g9 := hihI); go_simp; first | done | with_reducible rfl)); simp only [Act.put, List.setIfInBounds_toArray, List.set_cons_zero, List.set_cons_succ])
          (refine mv_val 2 (v := ?_) rfl (by kernel_rfl) (by kernel_rfl) (by kernel_rfl) (fun _ _ _ h => h) (by rfl) hS ?_ ?_; rotate_left; (focus (intro w hSw; (try dsimp only at hSw); (obtain ⟨f1, f2, f3⟩ := HX.out w hSw; obtain ⟨f4, f5, f6⟩ := FV.out w hSw; have f7 := hil; have f8 := hih; have f9 := hilI; have g9 := hihI); go_simp; first | done | with_reducible rfl)); simp only [Act.put, List.setIfInBounds_toArray, List.set_cons_zero, List.set_cons_succ])
          (refine mv_val 3 (v := ?_) rfl (by kernel_rfl) (by kernel_rfl) (by kernel_rfl) (fun _ _ _ h => h) (by rfl) hS ?_ ?_; rotate_left; (focus (intro w hSw; (try dsimp only at hSw); (obtain ⟨f1, f2, f3⟩ := HX.out w hSw; obtain ⟨f4, f5, f6⟩ := FV.out w hSw; have f7 := hil; have f8 := hih; have f9 := hilI; have g9 := hihI); go_simp; first | done | with_reducible rfl)); simp only [Act.put, List.setIfInBounds_toArray, List.set_cons_zero, List.set_cons_succ])
          (refine mv_val 4 (v := ?_) rfl (by kernel_rfl) (by kernel_rfl) (by kernel_rfl) (fun _ _ _ h => h) (by rfl) hS ?_ ?_; rotate_left; (focus (intro w hSw; (try dsimp only at hSw); (obtain ⟨f1, f2, f3⟩ := HX.out w hSw; obtain ⟨f4, f5, f6⟩ := FV.out w hSw; have f7 := hil; have f8 := hih; have f9 := hilI; have g9 := hihI); go_simp; first | done | with_reducible rfl)); simp only [Act.put, List.setIfInBounds_toArray, List.set_cons_zero, List.set_cons_succ])
          (refine mv_val 5 (v := ?_) rfl (by kernel_rfl) (by kernel_rfl) (by kernel_rfl) (fun _ _ _ h => h) (by rfl) hS ?_ ?_; rotate_left; (focus (intro w hSw; (try dsimp only at hSw); (obtain ⟨f1, f2, f3⟩ := HX.out w hSw; obtain ⟨f4, f5, f6⟩ := FV.out w hSw; have f7 := hil; have f8 := hih; have f9 := hilI; have g9 := hihI); go_simp; first | done | with_reducible rfl)); simp only [Act.put, List.setIfInBounds_toArray, List.set_cons_zero, List.set_cons_succ])
          (refine mv_val 6 (v := ?_) rfl (by kernel_rfl) (by kernel_rfl) (by kernel_rfl) (fun _ _ _ h => h) (by rfl) hS ?_ ?_; rotate_left; (focus (intro w hSw; (try dsimp only at hSw); (obtain ⟨f1, f2, f3⟩ := HX.out w hSw; obtain ⟨f4, f5, f6⟩ := FV.out w hSw; have f7 := hil; have f8 := hih; have f9 := hilI; have g9 := hihI); go_simp; first | done | with_reducible rfl)); simp only [Act.put, List.setIfInBounds_toArray, List.set_cons_zero, List.set_cons_succ])
          (refine mv_val 7 (v := ?_) rfl (by kernel_rfl) (by kernel_rfl) (by kernel_rfl) (fun _ _ _ h => h) (by rfl) hS ?_ ?_; rotate_left; (focus (intro w hSw; (try dsimp only at hSw); (obtain ⟨f1, f2, f3⟩ := HX.out w hSw; obtain ⟨f4, f5, f6⟩ := FV.out w hSw; have f7 := hil; have f8 := hih; have f9 := hilI; have g9 := hihI); go_simp; first | done | with_reducible rfl)); simp only [Act.put, List.setIfInBounds_toArray, List.set_cons_zero, List.set_cons_succ])
          (refine mv_val 8 (v := ?_) rfl (by kernel_rfl) (by kernel_rfl) (by kernel_rfl) (fun _ _ _ h => h) (by rfl) hS ?_ ?_; rotate_left; (focus (intro w hSw; (try dsimp only at hSw); (obtain ⟨f1, f2, f3⟩ := HX.out w hSw; obtain ⟨f4, f5, f6⟩ := FV.out w hSw; have f7 := hil; have f8 := hih; have f9 := hilI; have g9 := hihI); go_simp; first | done | with_reducible rfl)); simp only [Act.put, List.setIfInBounds_toArray, List.set_cons_zero, List.set_cons_succ])
          (refine mv_val 9 (v := ?_) rfl (by kernel_rfl) (by kernel_rfl) (by kernel_rfl) (fun _ _ _ h => h) (by rfl) hS ?_ ?_; rotate_left; (focus (intro w hSw; (try dsimp only at hSw); (obtain ⟨f1, f2, f3⟩ := HX.out w hSw; obtain ⟨f4, f5, f6⟩ := FV.out w hSw; have f7 := hil; have f8 := hih; have f9 := hilI; have g9 := hihI); go_simp; first | done | with_reducible rfl)); simp only [Act.put, List.setIfInBounds_toArray, List.set_cons_zero, List.set_cons_succ])
          refine wpAnyH_done (by kernel_rfl) ?_ _
          go_wp2_with fail
          refine ah_start 10 (fun w' => Below we.heap.size we w') rfl (by kernel_rfl) hS.drew ?_ ; clear hS; intro hS
          (refine mv_val 0 (v := ?_) rfl (by kernel_rfl) (by kernel_rfl) (by kernel_rfl) (fun _ _ _ h => h) (by rfl) hS ?_ ?_; rotate_left; (focus (intro w hSw; (try dsimp only at hSw); (obtain ⟨f1', f2', f3'⟩ := HY.out w hSw; obtain ⟨f4, f5, f6⟩ := FV.out w hSw; have f7 := hil; have f8 := hih; have f9 := hilI; have g9 := hihI); go_simp; first | done | with_reducible rfl)); simp only [Act.put, List.setIfInBounds_toArray, List.set_cons_zero, List.set_cons_succ])
          (refine mv_val 1 (v := ?_) rfl (by kernel_rfl) (by kernel_rfl) (by kernel_rfl) (fun _ _ _ h => h) (by rfl) hS ?_ ?_; rotate_left; (focus (intro w hSw; (try dsimp only at hSw); (obtain ⟨f1', f2', f3'⟩ := HY.out w hSw; obtain ⟨f4, f5, f6⟩ := FV.out w hSw; have f7 := hil; have f8 := hih; have f9 := hilI; have g9 := hihI); go_simp; first | done | with_reducible rfl)); simp only [Act.put, List.setIfInBounds_toArray, List.set_cons_zero, List.set_cons_succ])
          (refine mv_val 2 (v := ?_) rfl (by kernel_rfl) (by kernel_rfl) (by kernel_rfl) (fun _ _ _ h => h) (by rfl) hS ?_ ?_; rotate_left; (focus (intro w hSw; (try dsimp only at hSw); (obtain ⟨f1', f2', f3'⟩ := HY.out w hSw; obtain ⟨f4, f5, f6⟩ := FV.out w hSw; have f7 := hil; have f8 := hih; have f9 := hilI; have g9 := hihI); go_simp; first | done | with_reducible rfl)); simp only [Act.put, List.setIfInBounds_toArray, List.set_cons_zero, List.set_cons_succ])
          (refine mv_val 3 (v := ?_) rfl (by kernel_rfl) (by kernel_rfl) (by kernel_rfl) (fun _ _ _ h => h) (by rfl) hS ?_ ?_; rotate_left; (focus (intro w hSw; (try dsimp only at hSw); (obtain ⟨f1', f2', f3'⟩ := HY.out w hSw; obtain ⟨f4, f5, f6⟩ := FV.out w hSw; have f7 := hil; have f8 := hih; have f9 := hilI; have g9 := hihI); go_simp; first | done | with_reducible rfl)); simp only [Act.put, List.setIfInBounds_toArray, List.set_cons_zero, List.set_cons_succ])
          (refine mv_val 4 (v := ?_) rfl (by kernel_rfl) (by kernel_rfl) (by kernel_rfl) (fun _ _ _ h => h) (by rfl) hS ?_ ?_; rotate_left; (focus (intro w hSw; (try dsimp only at hSw); (obtain ⟨f1', f2', f3'⟩ := HY.out w hSw; obtain ⟨f4, f5, f6⟩ := FV.out w hSw; have f7 := hil; have f8 := hih; have f9 := hilI; have g9 := hihI); go_simp; first | done | with_reducible rfl)); simp only [Act.put, List.setIfInBounds_toArray, List.set_cons_zero, List.set_cons_succ])
          (refine mv_val 5 (v := ?_) rfl (by kernel_rfl) (by kernel_rfl) (by kernel_rfl) (fun _ _ _ h => h) (by rfl) hS ?_ ?_; rotate_left; (focus (intro w hSw; (try dsimp only at hSw); (obtain ⟨f1', f2', f3'⟩ := HY.out w hSw; obtain ⟨f4, f5, f6⟩ := FV.out w hSw; have f7 := hil; have f8 := hih; have f9 := hilI; have g9 := hihI); go_simp; first | done | with_reducible rfl)); simp only [Act.put, List.setIfInBounds_toArray, List.set_cons_zero, List.set_cons_succ])
          (refine mv_val 6 (v := ?_) rfl (by kernel_rfl) (by kernel_rfl) (by kernel_rfl) (fun _ _ _ h => h) (by rfl) hS ?_ ?_; rotate_left; (focus (intro w hSw; (try dsimp only at hSw); (obtain ⟨f1', f2', f3'⟩ := HY.out w hSw; obtain ⟨f4, f5, f6⟩ := FV.out w hSw; have f7 := hil; have f8 := hih; have f9 := hilI; have g9 := hihI); go_simp; first | done | with_reducible rfl)); simp only [Act.put, List.setIfInBounds_toArray, List.set_cons_zero, List.set_cons_succ])
          (refine mv_val 7 (v := ?_) rfl (by kernel_rfl) (by kernel_rfl) (by kernel_rfl) (fun _ _ _ h => h) (by rfl) hS ?_ ?_; rotate_left; (focus (intro w hSw; (try dsimp only at hSw); (obtain ⟨f1', f2', f3'⟩ := HY.out w hSw; obtain ⟨f4, f5, f6⟩ := FV.out w hSw; have f7 := hil; have f8 := hih; have f9 := hilI; have g9 := hihI); go_simp; first | done | with_reducible rfl)); simp only [Act.put, List.setIfInBounds_toArray, List.set_cons_zero, List.set_cons_succ])
          (refine mv_val 8 (v := ?_) rfl (by kernel_rfl) (by kernel_rfl) (by kernel_rfl) (fun _ _ _ h => h) (by rfl) hS ?_ ?_; rotate_left; (focus (intro w hSw; (try dsimp only at hSw); (obtain ⟨f1', f2', f3'⟩ := HY.out w hSw; obtain ⟨f4, f5, f6⟩ := FV.out w hSw; have f7 := hil; have f8 := hih; have f9 := hilI; have g9 := hihI); go_simp; first | done | with_reducible rfl)); simp only [Act.put, List.setIfInBounds_toArray, List.set_cons_zero, List.set_cons_succ])
          (refine mv_val 9 (v := ?_) rfl (by kernel_rfl) (by kernel_rfl) (by kernel_rfl) (fun _ _ _ h => h) (by rfl) hS ?_ ?_; rotate_left; (focus (intro w hSw; (try dsimp only at hSw); (obtain ⟨f1', f2', f3'⟩ := HY.out w hSw; obtain ⟨f4, f5, f6⟩ := FV.out w hSw; have f7 := hil; have f8 := hih; have f9 := hilI; have g9 := hihI); go_simp; first | done | with_reducible rfl)); simp only [Act.put, List.setIfInBounds_toArray, List.set_cons_zero, List.set_cons_succ])
          refine wpAnyH_done (by kernel_rfl) ?_ _
          go_wp2_with fail
          refine ah_start 14 (fun w' => Below we.heap.size we w') rfl (by kernel_rfl) hS.drew ?_ ; clear hS; intro hS
          (refine mv_val 0 (v := ?_) rfl (by kernel_rfl) (by kernel_rfl) (by kernel_rfl) (fun _ _ _ h => h) (by rfl) hS ?_ ?_; rotate_left; (focus (intro w hSw; (try dsimp only at hSw); (obtain ⟨f1, f2, f3⟩ := HX.out w hSw; obtain ⟨f1', f2', f3'⟩ := HY.out w hSw; obtain ⟨f4, f5, f6⟩ := FV.out w hSw; have f7 := hil; have f8 := hih; have f9 := hilI; have g9 := hihI); go_simp; first | done | with_reducible rfl)); simp only [Act.put, List.setIfInBounds_toArray, List.set_cons_zero, List.set_cons_succ])
          (refine mv_val 1 (v := ?_) rfl (by kernel_rfl) (by kernel_rfl) (by kernel_rfl) (fun _ _ _ h => h) (by rfl) hS ?_ ?_; rotate_left; (focus (intro w hSw; (try dsimp only at hSw); (obtain ⟨f1, f2, f3⟩ := HX.out w hSw; obtain ⟨f1', f2', f3'⟩ := HY.out w hSw; obtain ⟨f4, f5, f6⟩ := FV.out w hSw; have f7 := hil; have f8 := hih; have f9 := hilI; have g9 := hihI); go_simp; first | done | with_reducible rfl)); simp only [Act.put, List.setIfInBounds_toArray, List.set_cons_zero, List.set_cons_succ])
          (refine mv_val 2 (v := ?_) rfl (by kernel_rfl) (by kernel_rfl) (by kernel_rfl) (fun _ _ _ h => h) (by rfl) hS ?_ ?_; rotate_left; (focus (intro w hSw; (try dsimp only at hSw); (obtain ⟨f1, f2, f3⟩ := HX.out w hSw; obtain ⟨f1', f2', f3'⟩ := HY.out w hSw; obtain ⟨f4, f5, f6⟩ := FV.out w hSw; have f7 := hil; have f8 := hih; have f9 := hilI; have g9 := hihI); go_simp; first | done | with_reducible rfl)); simp only [Act.put, List.setIfInBounds_toArray, List.set_cons_zero, List.set_cons_succ])
          (refine mv_val 3 (v := ?_) rfl (by kernel_rfl) (by kernel_rfl) (by kernel_rfl) (fun _ _ _ h => h) (by rfl) hS ?_ ?_; rotate_left; (focus (intro w hSw; (try dsimp only at hSw); (obtain ⟨f1, f2, f3⟩ := HX.out w hSw; obtain ⟨f1', f2', f3'⟩ := HY.out w hSw; obtain ⟨f4, f5, f6⟩ := FV.out w hSw; have f7 := hil; have f8 := hih; have f9 := hilI; have g9 := hihI); go_simp; first | done | with_reducible rfl)); simp only [Act.put, List.setIfInBounds_toArray, List.set_cons_zero, List.set_cons_succ])
          (refine mv_val 4 (v := ?_) rfl (by kernel_rfl) (by kernel_rfl) (by kernel_rfl) (fun _ _ _ h => h) (by rfl) hS ?_ ?_; rotate_left; (focus (intro w hSw; (try dsimp only at hSw); (obtain ⟨f1, f2, f3⟩ := HX.out w hSw; obtain ⟨f1', f2', f3'⟩ := HY.out w hSw; obtain ⟨f4, f5, f6⟩ := FV.out w hSw; have f7 := hil; have f8 := hih; have f9 := hilI; have g9 := hihI); go_simp; first | done | with_reducible rfl)); simp only [Act.put, List.setIfInBounds_toArray, List.set_cons_zero, List.set_cons_succ])
          (refine mv_call 5 (f := ?_) (args := ?_) rfl (by kernel_rfl) (by rfl) ?_ ?_; rotate_left 2; (focus (go_simp; first | done | with_reducible rfl | (refine ⟨?_, ?_⟩ <;> with_reducible rfl))))
          refine (HL1.out _).mono ?_; rintro e w5 ⟨rfl, hb5⟩
          have hS4 : Below we.heap.size we w5 := hS.trans (hb5.mono hS.size)
          refine ⟨_, rfl, hS4, ?_⟩
          replace hS := hS4
          clear hS4
          simp only [Act.put, List.setIfInBounds_toArray, List.set_cons_zero, List.set_cons_succ]
          (refine mv_val 6 (v := ?_) rfl (by kernel_rfl) (by kernel_rfl) (by kernel_rfl) (fun _ _ _ h => h) (by rfl) hS ?_ ?_; rotate_left; (focus (intro w hSw; (try dsimp only at hSw); (obtain ⟨f1, f2, f3⟩ := HX.out w hSw; obtain ⟨f1', f2', f3'⟩ := HY.out w hSw; obtain ⟨f4, f5, f6⟩ := FV.out w hSw; have f7 := hil; have f8 := hih; have f9 := hilI; have g9 := hihI); go_simp; first | done | with_reducible rfl)); simp only [Act.put, List.setIfInBounds_toArray, List.set_cons_zero, List.set_cons_succ])
          (refine mv_val 7 (v := ?_) rfl (by kernel_rfl) (by kernel_rfl) (by kernel_rfl) (fun _ _ _ h => h) (by rfl) hS ?_ ?_; rotate_left; (focus (intro w hSw; (try dsimp only at hSw); (obtain ⟨f1, f2, f3⟩ := HX.out w hSw; obtain ⟨f1', f2', f3'⟩ := HY.out w hSw; obtain ⟨f4, f5, f6⟩ := FV.out w hSw; have f7 := hil; have f8 := hih; have f9 := hilI; have g9 := hihI); go_simp; first | done | with_reducible rfl)); simp only [Act.put, List.setIfInBounds_toArray, List.set_cons_zero, List.set_cons_succ])
          (refine mv_val 8 (v := ?_) rfl (by kernel_rfl) (by kernel_rfl) (by kernel_rfl) (fun _ _ _ h => h) (by rfl) hS ?_ ?_; rotate_left; (focus (intro w hSw; (try dsimp only at hSw); (obtain ⟨f1, f2, f3⟩ := HX.out w hSw; obtain ⟨f1', f2', f3'⟩ := HY.out w hSw; obtain ⟨f4, f5, f6⟩ := FV.out w hSw; have f7 := hil; have f8 := hih; have f9 := hilI; have g9 := hihI); go_simp; first | done | with_reducible rfl)); simp only [Act.put, List.setIfInBounds_toArray, List.set_cons_zero, List.set_cons_succ])
          (refine mv_val 9 (v := ?_) rfl (by kernel_rfl) (by kernel_rfl) (by kernel_rfl) (fun _ _ _ h => h) (by rfl) hS ?_ ?_; rotate_left; (focus (intro w hSw; (try dsimp only at hSw); (obtain ⟨f1, f2, f3⟩ := HX.out w hSw; obtain ⟨f1', f2', f3'⟩ := HY.out w hSw; obtain ⟨f4, f5, f6⟩ := FV.out w hSw; have f7 := hil; have f8 := hih; have f9 := hilI; have g9 := hihI); go_simp; first | done | with_reducible rfl)); simp only [Act.put, List.setIfInBounds_toArray, List.set_cons_zero, List.set_cons_succ])
          (refine mv_val 10 (v := ?_) rfl (by kernel_rfl) (by kernel_rfl) (by kernel_rfl) (fun _ _ _ h => h) (by rfl) hS ?_ ?_; rotate_left; (focus (intro w hSw; (try dsimp only at hSw); (obtain ⟨f1, f2, f3⟩ := HX.out w hSw; obtain ⟨f1', f2', f3'⟩ := HY.out w hSw; obtain ⟨f4, f5, f6⟩ := FV.out w hSw; have f7 := hil; have f8 := hih; have f9 := hilI; have g9 := hihI); go_simp; first | done | with_reducible rfl)); simp only [Act.put, List.setIfInBounds_toArray, List.set_cons_zero, List.set_cons_succ])
          (refine mv_val 11 (v := ?_) rfl (by kernel_rfl) (by kernel_rfl) (by kernel_rfl) (fun _ _ _ h => h) (by rfl) hS ?_ ?_; rotate_left; (focus (intro w hSw; (try dsimp only at hSw); (obtain ⟨f1, f2, f3⟩ := HX.out w hSw; obtain ⟨f1', f2', f3'⟩ := HY.out w hSw; obtain ⟨f4, f5, f6⟩ := FV.out w hSw; have f7 := hil; have f8 := hih; have f9 := hilI; have g9 := hihI); go_simp; first | done | with_reducible rfl)); simp only [Act.put, List.setIfInBounds_toArray, List.set_cons_zero, List.set_cons_succ])
          (refine mv_call 12 (f := ?_) (args := ?_) rfl (by kernel_rfl) (by rfl) ?_ ?_; rotate_left 2; (focus (go_simp; first | done | with_reducible rfl | (refine ⟨?_, ?_⟩ <;> with_reducible rfl))))
          refine (HL2.out _).mono ?_; rintro e w6 ⟨rfl, hb6⟩
          have hS4 : Below we.heap.size we w6 := hS.trans (hb6.mono hS.size)
          refine ⟨_, rfl, hS4, ?_⟩
          replace hS := hS4
          clear hS4
          simp only [Act.put, List.setIfInBounds_toArray, List.set_cons_zero, List.set_cons_succ]
          (refine mv_val 13 (v := ?_) rfl (by kernel_rfl) (by kernel_rfl) (by kernel_rfl) (fun _ _ _ h => h) (by rfl) hS ?_ ?_; rotate_left; (focus (intro w hSw; (try dsimp only at hSw); (obtain ⟨f1, f2, f3⟩ := HX.out w hSw; obtain ⟨f1', f2', f3'⟩ := HY.out w hSw; obtain ⟨f4, f5, f6⟩ := FV.out w hSw; have f7 := hil; have f8 := hih; have f9 := hilI; have g9 := hihI); go_simp; first | done | with_reducible rfl)); simp only [Act.put, List.setIfInBounds_toArray, List.set_cons_zero, List.set_cons_succ])
          refine wpAnyH_done (by kernel_rfl) ?_ _
          have hbf : Below w4.heap.size w4 w6 := HBE.out.trans (hS.mono HBE.out.size)
          clear hS hb5 hb6
          go_wp2_with fail
          go_roundw
          case rel =>
            refine ⟨k + 1, (decide (v = x)), (decide (v = y)), true, by omega, by go_num, rfl, rfl, rfl, ?_, ?_, HH.out, hbf⟩
            · rw [HE.out]; exact mem_more HLB.out
            · rw [HE.out]; exact mem_more HGB.out
          case measure => simp [intOf]; omega
        · skip
          go_upto_region 17 with fail
          rw [← HWE.out]
          refine ah_start 10 (fun w' => Below we.heap.size we w') rfl (by kernel_rfl) (Below.refl _ _).drew ?_ ; intro hS
          (refine mv_val 0 (v := ?_) rfl (by kernel_rfl) (by kernel_rfl) (by kernel_rfl) (fun _ _ _ h => h) (by rfl) hS ?_ ?_; rotate_left; (focus (intro w hSw; (try dsimp only at hSw); (obtain ⟨f1, f2, f3⟩ := HX.out w hSw; obtain ⟨f4, f5, f6⟩ := FV.out w hSw; have f7 := hil; have f8 := hih; have f9 := hilI; have g9 := hihI); go_simp; first | done | with_reducible rfl)); simp only [Act.put, List.setIfInBounds_toArray, List.set_cons_zero, List.set_cons_succ])
          (refine mv_val 1 (v := ?_) rfl (by kernel_rfl) (by kernel_rfl) (by kernel_rfl) (fun _ _ _ h => h) (by rfl) hS ?_ ?_; rotate_left; (focus (intro w hSw; (try dsimp only at hSw); (obtain ⟨f1, f2, f3⟩ := HX.out w hSw; obtain ⟨f4, f5, f6⟩ := FV.out w hSw; have f7 := hil; have f8 := hih; have f9 := hilI; have g9 := hihI); go_simp; first | done | with_reducible rfl)); simp only [Act.put, List.setIfInBounds_toArray, List.set_cons_zero, List.set_cons_succ])
          (refine mv_val 2 (v := ?_) rfl (by kernel_rfl) (by kernel_rfl) (by kernel_rfl) (fun _ _ _ h => h) (by rfl) hS ?_ ?_; rotate_left; (focus (intro w hSw; (try dsimp only at hSw); (obtain ⟨f1, f2, f3⟩ := HX.out w hSw; obtain ⟨f4, f5, f6⟩ := FV.out w hSw; have f7 := hil; have f8 := hih; have f9 := hilI; have g9 := hihI); go_simp; first | done | with_reducible rfl)); simp only [Act.put, List.setIfInBounds_toArray, List.set_cons_zero, List.set_cons_succ])
          (refine mv_val 3 (v := ?_) rfl (by kernel_rfl) (by kernel_rfl) (by kernel_rfl) (fun _ _ _ h => h) (by rfl) hS ?_ ?_; rotate_left; (focus (intro w hSw; (try dsimp only at hSw); (obtain ⟨f1, f2, f3⟩ := HX.out w hSw; obtain ⟨f4, f5, f6⟩ := FV.out w hSw; have f7 := hil; have f8 := hih; have f9 := hilI; have g9 := hihI); go_simp; first | done | with_reducible rfl)); simp only [Act.put, List.setIfInBounds_toArray, List.set_cons_zero, List.set_cons_succ])
          (refine mv_val 4 (v := ?_) rfl (by kernel_rfl) (by kernel_rfl) (by kernel_rfl) (fun _ _ _ h => h) (by rfl) hS ?_ ?_; rotate_left; (focus (intro w hSw; (try dsimp only at hSw); (obtain ⟨f1, f2, f3⟩ := HX.out w hSw; obtain ⟨f4, f5, f6⟩ := FV.out w hSw; have f7 := hil; have f8 := hih; have f9 := hilI; have g9 := hihI); go_simp; first | done | with_reducible rfl)); simp only [Act.put, List.setIfInBounds_toArray, List.set_cons_zero, List.set_cons_succ])
          (refine mv_val 5 (v := ?_) rfl (by kernel_rfl) (by kernel_rfl) (by kernel_rfl) (fun _ _ _ h => h) (by rfl) hS ?_ ?_; rotate_left; (focus (intro w hSw; (try dsimp only at hSw); (obtain ⟨f1, f2, f3⟩ := HX.out w hSw; obtain ⟨f4, f5, f6⟩ := FV.out w hSw; have f7 := hil; have f8 := hih; have f9 := hilI; have g9 := hihI); go_simp; first | done | with_reducible rfl)); simp only [Act.put, List.setIfInBounds_toArray, List.set_cons_zero, List.set_cons_succ])
          (refine mv_val 6 (v := ?_) rfl (by kernel_rfl) (by kernel_rfl) (by kernel_rfl) (fun _ _ _ h => h) (by rfl) hS ?_ ?_; rotate_left; (focus (intro w hSw; (try dsimp only at hSw); (obtain ⟨f1, f2, f3⟩ := HX.out w hSw; obtain ⟨f4, f5, f6⟩ := FV.out w hSw; have f7 := hil; have f8 := hih; have f9 := hilI; have g9 := hihI); go_simp; first | done | with_reducible rfl)); simp only [Act.put, List.setIfInBounds_toArray, List.set_cons_zero, List.set_cons_succ])
          (refine mv_val 7 (v := ?_) rfl (by kernel_rfl) (by kernel_rfl) (by kernel_rfl) (fun _ _ _ h => h) (by rfl) hS ?_ ?_; rotate_left; (focus (intro w hSw; (try dsimp only at hSw); (obtain ⟨f1, f2, f3⟩ := HX.out w hSw; obtain ⟨f4, f5, f6⟩ := FV.out w hSw; have f7 := hil; have f8 := hih; have f9 := hilI; have g9 := hihI); go_simp; first | done | with_reducible rfl)); simp only [Act.put, List.setIfInBounds_toArray, List.set_cons_zero, List.set_cons_succ])
          (refine mv_val 8 (v := ?_) rfl (by kernel_rfl) (by kernel_rfl) (by kernel_rfl) (fun _ _ _ h => h) (by rfl) hS ?_ ?_; rotate_left; (focus (intro w hSw; (try dsimp only at hSw); (obtain ⟨f1, f2, f3⟩ := HX.out w hSw; obtain ⟨f4, f5, f6⟩ := FV.out w hSw; have f7 := hil; have f8 := hih; have f9 := hilI; have g9 := hihI); go_simp; first | done | with_reducible rfl)); simp only [Act.put, List.setIfInBounds_toArray, List.set_cons_zero, List.set_cons_succ])
          (refine mv_val 9 (v := ?_) rfl (by kernel_rfl) (by kernel_rfl) (by kernel_rfl) (fun _ _ _ h => h) (by rfl) hS ?_ ?_; rotate_left; (focus (intro w hSw; (try dsimp only at hSw); (obtain ⟨f1, f2, f3⟩ := HX.out w hSw; obtain ⟨f4, f5, f6⟩ := FV.out w hSw; have f7 := hil; have f8 := hih; have f9 := hilI; have g9 := hihI); go_simp; first | done | with_reducible rfl)); simp only [Act.put, List.setIfInBounds_toArray, List.set_cons_zero, List.set_cons_succ])
          refine wpAnyH_done (by kernel_rfl) ?_ _
          go_wp2_with fail
          refine ah_start 10 (fun w' => Below we.heap.size we w') rfl (by kernel_rfl) hS.drew ?_ ; clear hS; intro hS
          (refine mv_val 0 (v := ?_) rfl (by kernel_rfl) (by kernel_rfl) (by kernel_rfl) (fun _ _ _ h => h) (by rfl) hS ?_ ?_; rotate_left; (focus (intro w hSw; (try dsimp only at hSw); (have f7 := hil; have f8 := hih; have f9 := hilI; have g9 := hihI); go_simp; first | done | with_reducible rfl)); simp only [Act.put, List.setIfInBounds_toArray, List.set_cons_zero, List.set_cons_succ])
          (refine mv_val 1 (v := ?_) rfl (by kernel_rfl) (by kernel_rfl) (by kernel_rfl) (fun _ _ _ h => h) (by rfl) hS ?_ ?_; rotate_left; (focus (intro w hSw; (try dsimp only at hSw); (have f7 := hil; have f8 := hih; have f9 := hilI; have g9 := hihI); go_simp; first | done | with_reducible rfl)); simp only [Act.put, List.setIfInBounds_toArray, List.set_cons_zero, List.set_cons_succ])
          (refine mv_skip 2 rfl (by kernel_rfl) (by kernel_rfl) (by kernel_rfl) (fun _ _ _ h => h) (by rfl) hS ?_; simp only [Act.put, List.setIfInBounds_toArray, List.set_cons_zero, List.set_cons_succ])
          (refine mv_skip 3 rfl (by kernel_rfl) (by kernel_rfl) (by kernel_rfl) (fun _ _ _ h => h) (by rfl) hS ?_; simp only [Act.put, List.setIfInBounds_toArray, List.set_cons_zero, List.set_cons_succ])
          (refine mv_skip 4 rfl (by kernel_rfl) (by kernel_rfl) (by kernel_rfl) (fun _ _ _ h => h) (by rfl) hS ?_; simp only [Act.put, List.setIfInBounds_toArray, List.set_cons_zero, List.set_cons_succ])
          (refine mv_skip 5 rfl (by kernel_rfl) (by kernel_rfl) (by kernel_rfl) (fun _ _ _ h => h) (by rfl) hS ?_; simp only [Act.put, List.setIfInBounds_toArray, List.set_cons_zero, List.set_cons_succ])
          (refine mv_skip 6 rfl (by kernel_rfl) (by kernel_rfl) (by kernel_rfl) (fun _ _ _ h => h) (by rfl) hS ?_; simp only [Act.put, List.setIfInBounds_toArray, List.set_cons_zero, List.set_cons_succ])
          (refine mv_skip 7 rfl (by kernel_rfl) (by kernel_rfl) (by kernel_rfl) (fun _ _ _ h => h) (by rfl) hS ?_; simp only [Act.put, List.setIfInBounds_toArray, List.set_cons_zero, List.set_cons_succ])
          (refine mv_val 8 (v := ?_) rfl (by kernel_rfl) (by kernel_rfl) (by kernel_rfl) (fun _ _ _ h => h) (by rfl) hS ?_ ?_; rotate_left; (focus (intro w hSw; (try dsimp only at hSw); (have f7 := hil; have f8 := hih; have f9 := hilI; have g9 := hihI); go_simp; first | done | with_reducible rfl)); simp only [Act.put, List.setIfInBounds_toArray, List.set_cons_zero, List.set_cons_succ])
          (refine mv_val 9 (v := ?_) rfl (by kernel_rfl) (by kernel_rfl) (by kernel_rfl) (fun _ _ _ h => h) (by rfl) hS ?_ ?_; rotate_left; (focus (intro w hSw; (try dsimp only at hSw); (have f7 := hil; have f8 := hih; have f9 := hilI; have g9 := hihI); go_simp; first | done | with_reducible rfl)); simp only [Act.put, List.setIfInBounds_toArray, List.set_cons_zero, List.set_cons_succ])
          refine wpAnyH_done (by kernel_rfl) ?_ _
          go_wp2_with fail
          refine ah_start 14 (fun w' => Below we.heap.size we w') rfl (by kernel_rfl) hS.drew ?_ ; clear hS; intro hS
          (refine mv_val 0 (v := ?_) rfl (by kernel_rfl) (by kernel_rfl) (by kernel_rfl) (fun _ _ _ h => h) (by rfl) hS ?_ ?_; rotate_left; (focus (intro w hSw; (try dsimp only at hSw); (obtain ⟨f1, f2, f3⟩ := HX.out w hSw; obtain ⟨f1', f2', f3'⟩ := HY.out w hSw; obtain ⟨f4, f5, f6⟩ := FV.out w hSw; have f7 := hil; have f8 := hih; have f9 := hilI; have g9 := hihI); go_simp; first | done | with_reducible rfl)); simp only [Act.put, List.setIfInBounds_toArray, List.set_cons_zero, List.set_cons_succ])
          (refine mv_val 1 (v := ?_) rfl (by kernel_rfl) (by kernel_rfl) (by kernel_rfl) (fun _ _ _ h => h) (by rfl) hS ?_ ?_; rotate_left; (focus (intro w hSw; (try dsimp only at hSw); (obtain ⟨f1, f2, f3⟩ := HX.out w hSw; obtain ⟨f1', f2', f3'⟩ := HY.out w hSw; obtain ⟨f4, f5, f6⟩ := FV.out w hSw; have f7 := hil; have f8 := hih; have f9 := hilI; have g9 := hihI); go_simp; first | done | with_reducible rfl)); simp only [Act.put, List.setIfInBounds_toArray, List.set_cons_zero, List.set_cons_succ])
          (refine mv_val 2 (v := ?_) rfl (by kernel_rfl) (by kernel_rfl) (by kernel_rfl) (fun _ _ _ h => h) (by rfl) hS ?_ ?_; rotate_left; (focus (intro w hSw; (try dsimp only at hSw); (obtain ⟨f1, f2, f3⟩ := HX.out w hSw; obtain ⟨f1', f2', f3'⟩ := HY.out w hSw; obtain ⟨f4, f5, f6⟩ := FV.out w hSw; have f7 := hil; have f8 := hih; have f9 := hilI; have g9 := hihI); go_simp; first | done | with_reducible rfl)); simp only [Act.put, List.setIfInBounds_toArray, List.set_cons_zero, List.set_cons_succ])
          (refine mv_val 3 (v := ?_) rfl (by kernel_rfl) (by kernel_rfl) (by kernel_rfl) (fun _ _ _ h => h) (by rfl) hS ?_ ?_; rotate_left; (focus (intro w hSw; (try dsimp only at hSw); (obtain ⟨f1, f2, f3⟩ := HX.out w hSw; obtain ⟨f1', f2', f3'⟩ := HY.out w hSw; obtain ⟨f4, f5, f6⟩ := FV.out w hSw; have f7 := hil; have f8 := hih; have f9 := hilI; have g9 := hihI); go_simp; first | done | with_reducible rfl)); simp only [Act.put, List.setIfInBounds_toArray, List.set_cons_zero, List.set_cons_succ])
          (refine mv_val 4 (v := ?_) rfl (by kernel_rfl) (by kernel_rfl) (by kernel_rfl) (fun _ _ _ h => h) (by rfl) hS ?_ ?_; rotate_left; (focus (intro w hSw; (try dsimp only at hSw); (obtain ⟨f1, f2, f3⟩ := HX.out w hSw; obtain ⟨f1', f2', f3'⟩ := HY.out w hSw; obtain ⟨f4, f5, f6⟩ := FV.out w hSw; have f7 := hil; have f8 := hih; have f9 := hilI; have g9 := hihI); go_simp; first | done | with_reducible rfl)); simp only [Act.put, List.setIfInBounds_toArray, List.set_cons_zero, List.set_cons_succ])
          (refine mv_call 5 (f := ?_) (args := ?_) rfl (by kernel_rfl) (by rfl) ?_ ?_; rotate_left 2; (focus (go_simp; first | done | with_reducible rfl | (refine ⟨?_, ?_⟩ <;> with_reducible rfl))))
          refine (HL1.out _).mono ?_; rintro e w5 ⟨rfl, hb5⟩
          have hS4 : Below we.heap.size we w5 := hS.trans (hb5.mono hS.size)
          refine ⟨_, rfl, hS4, ?_⟩
          replace hS := hS4
          clear hS4
          simp only [Act.put, List.setIfInBounds_toArray, List.set_cons_zero, List.set_cons_succ]
          (refine mv_val 6 (v := ?_) rfl (by kernel_rfl) (by kernel_rfl) (by kernel_rfl) (fun _ _ _ h => h) (by rfl) hS ?_ ?_; rotate_left; (focus (intro w hSw; (try dsimp only at hSw); (obtain ⟨f1, f2, f3⟩ := HX.out w hSw; obtain ⟨f1', f2', f3'⟩ := HY.out w hSw; obtain ⟨f4, f5, f6⟩ := FV.out w hSw; have f7 := hil; have f8 := hih; have f9 := hilI; have g9 := hihI); go_simp; first | done | with_reducible rfl)); simp only [Act.put, List.setIfInBounds_toArray, List.set_cons_zero, List.set_cons_succ])
          (refine mv_val 7 (v := ?_) rfl (by kernel_rfl) (by kernel_rfl) (by kernel_rfl) (fun _ _ _ h => h) (by rfl) hS ?_ ?_; rotate_left; (focus (intro w hSw; (try dsimp only at hSw); (obtain ⟨f1, f2, f3⟩ := HX.out w hSw; obtain ⟨f1', f2', f3'⟩ := HY.out w hSw; obtain ⟨f4, f5, f6⟩ := FV.out w hSw; have f7 := hil; have f8 := hih; have f9 := hilI; have g9 := hihI); go_simp; first | done | with_reducible rfl)); simp only [Act.put, List.setIfInBounds_toArray, List.set_cons_zero, List.set_cons_succ])
          (refine mv_val 8 (v := ?_) rfl (by kernel_rfl) (by kernel_rfl) (by kernel_rfl) (fun _ _ _ h => h) (by rfl) hS ?_ ?_; rotate_left; (focus (intro w hSw; (try dsimp only at hSw); (obtain ⟨f1, f2, f3⟩ := HX.out w hSw; obtain ⟨f1', f2', f3'⟩ := HY.out w hSw; obtain ⟨f4, f5, f6⟩ := FV.out w hSw; have f7 := hil; have f8 := hih; have f9 := hilI; have g9 := hihI); go_simp; first | done | with_reducible rfl)); simp only [Act.put, List.setIfInBounds_toArray, List.set_cons_zero, List.set_cons_succ])
          (refine mv_val 9 (v := ?_) rfl (by kernel_rfl) (by kernel_rfl) (by kernel_rfl) (fun _ _ _ h => h) (by rfl) hS ?_ ?_; rotate_left; (focus (intro w hSw; (try dsimp only at hSw); (obtain ⟨f1, f2, f3⟩ := HX.out w hSw; obtain ⟨f1', f2', f3'⟩ := HY.out w hSw; obtain ⟨f4, f5, f6⟩ := FV.out w hSw; have f7 := hil; have f8 := hih; have f9 := hilI; have g9 := hihI); go_simp; first | done | with_reducible rfl)); simp only [Act.put, List.setIfInBounds_toArray, List.set_cons_zero, List.set_cons_succ])
          (refine mv_val 10 (v := ?_) rfl (by kernel_rfl) (by kernel_rfl) (by kernel_rfl) (fun _ _ _ h => h) (by rfl) hS ?_ ?_; rotate_left; (focus (intro w hSw; (try dsimp only at hSw); (obtain ⟨f1, f2, f3⟩ := HX.out w hSw; obtain ⟨f1', f2', f3'⟩ := HY.out w hSw; obtain ⟨f4, f5, f6⟩ := FV.out w hSw; have f7 := hil; have f8 := hih; have f9 := hilI; have g9 := hihI); go_simp; first | done | with_reducible rfl)); simp only [Act.put, List.setIfInBounds_toArray, List.set_cons_zero, List.set_cons_succ])
          (refine mv_val 11 (v := ?_) rfl (by kernel_rfl) (by kernel_rfl) (by kernel_rfl) (fun _ _ _ h => h) (by rfl) hS ?_ ?_; rotate_left; (focus (intro w hSw; (try dsimp only at hSw); (obtain ⟨f1, f2, f3⟩ := HX.out w hSw; obtain ⟨f1', f2', f3'⟩ := HY.out w hSw; obtain ⟨f4, f5, f6⟩ := FV.out w hSw; have f7 := hil; have f8 := hih; have f9 := hilI; have g9 := hihI); go_simp; first | done | with_reducible rfl)); simp only [Act.put, List.setIfInBounds_toArray, List.set_cons_zero, List.set_cons_succ])
          (refine mv_call 12 (f := ?_) (args := ?_) rfl (by kernel_rfl) (by rfl) ?_ ?_; rotate_left 2; (focus (go_simp; first | done | with_reducible rfl | (refine ⟨?_, ?_⟩ <;> with_reducible rfl))))
          refine (HL2.out _).mono ?_; rintro e w6 ⟨rfl, hb6⟩
          have hS4 : Below we.heap.size we w6 := hS.trans (hb6.mono hS.size)
          refine ⟨_, rfl, hS4, ?_⟩
          replace hS := hS4
          clear hS4
          simp only [Act.put, List.setIfInBounds_toArray, List.set_cons_zero, List.set_cons_succ]
          (refine mv_val 13 (v := ?_) rfl (by kernel_rfl) (by kernel_rfl) (by kernel_rfl) (fun _ _ _ h => h) (by rfl) hS ?_ ?_; rotate_left; (focus (intro w hSw; (try dsimp only at hSw); (obtain ⟨f1, f2, f3⟩ := HX.out w hSw; obtain ⟨f1', f2', f3'⟩ := HY.out w hSw; obtain ⟨f4, f5, f6⟩ := FV.out w hSw; have f7 := hil; have f8 := hih; have f9 := hilI; have g9 := hihI); go_simp; first | done | with_reducible rfl)); simp only [Act.put, List.setIfInBounds_toArray, List.set_cons_zero, List.set_cons_succ])
          refine wpAnyH_done (by kernel_rfl) ?_ _
          have hbf : Below w4.heap.size w4 w6 := HBE.out.trans (hS.mono HBE.out.size)
          clear hS hb5 hb6
          go_wp2_with fail
          go_roundw
          case rel =>
            refine ⟨k + 1, (decide (v = x)), true, true, by omega, by go_num, rfl, rfl, rfl, ?_, ?_, HH.out, hbf⟩
            · rw [HE.out]; exact mem_more HLB.out
            · rw [HE.out]; exact mem_yes HGB.out
          case measure => simp [intOf]; omega
      · cases gb
        · skip
          go_upto_region 17 with fail
          rw [← HWE.out]
          refine ah_start 10 (fun w' => Below we.heap.size we w') rfl (by kernel_rfl) (Below.refl _ _).drew ?_ ; intro hS
          (refine mv_val 0 (v := ?_) rfl (by kernel_rfl) (by kernel_rfl) (by kernel_rfl) (fun _ _ _ h => h) (by rfl) hS ?_ ?_; rotate_left; (focus (intro w hSw; (try dsimp only at hSw); (have f7 := hil; have f8 := hih; have f9 := hilI; have g9 := hihI); go_simp; first | done | with_reducible rfl)); simp only [Act.put, List.setIfInBounds_toArray, List.set_cons_zero, List.set_cons_succ])
          (refine mv_val 1 (v := ?_) rfl (by kernel_rfl) (by kernel_rfl) (by kernel_rfl) (fun _ _ _ h => h) (by rfl) hS ?_ ?_; rotate_left; (focus (intro w hSw; (try dsimp only at hSw); (have f7 := hil; have f8 := hih; have f9 := hilI; have g9 := hihI); go_simp; first | done | with_reducible rfl)); simp only [Act.put, List.setIfInBounds_toArray, List.set_cons_zero, List.set_cons_succ])
          (refine mv_skip 2 rfl (by kernel_rfl) (by kernel_rfl) (by kernel_rfl) (fun _ _ _ h => h) (by rfl) hS ?_; simp only [Act.put, List.setIfInBounds_toArray, List.set_cons_zero, List.set_cons_succ])
          (refine mv_skip 3 rfl (by kernel_rfl) (by kernel_rfl) (by kernel_rfl) (fun _ _ _ h => h) (by rfl) hS ?_; simp only [Act.put, List.setIfInBounds_toArray, List.set_cons_zero, List.set_cons_succ])
          (refine mv_skip 4 rfl (by kernel_rfl) (by kernel_rfl) (by kernel_rfl) (fun _ _ _ h => h) (by rfl) hS ?_; simp only [Act.put, List.setIfInBounds_toArray, List.set_cons_zero, List.set_cons_succ])
          (refine mv_skip 5 rfl (by kernel_rfl) (by kernel_rfl) (by kernel_rfl) (fun _ _ _ h => h) (by rfl) hS ?_; simp only [Act.put, List.setIfInBounds_toArray, List.set_cons_zero, List.set_cons_succ])
          (refine mv_skip 6 rfl (by kernel_rfl) (by kernel_rfl) (by kernel_rfl) (fun _ _ _ h => h) (by rfl) hS ?_; simp only [Act.put, List.setIfInBounds_toArray, List.set_cons_zero, List.set_cons_succ])
          (refine mv_skip 7 rfl (by kernel_rfl) (by kernel_rfl) (by kernel_rfl) (fun _ _ _ h => h) (by rfl) hS ?_; simp only [Act.put, List.setIfInBounds_toArray, List.set_cons_zero, List.set_cons_succ])
          (refine mv_val 8 (v := ?_) rfl (by kernel_rfl) (by kernel_rfl) (by kernel_rfl) (fun _ _ _ h => h) (by rfl) hS ?_ ?_; rotate_left; (focus (intro w hSw; (try dsimp only at hSw); (have f7 := hil; have f8 := hih; have f9 := hilI; have g9 := hihI); go_simp; first | done | with_reducible rfl)); simp only [Act.put, List.setIfInBounds_toArray, List.set_cons_zero, List.set_cons_succ])
          (refine mv_val 9 (v := ?_) rfl (by kernel_rfl) (by kernel_rfl) (by kernel_rfl) (fun _ _ _ h => h) (by rfl) hS ?_ ?_; rotate_left; (focus (intro w hSw; (try dsimp only at hSw); (have f7 := hil; have f8 := hih; have f9 := hilI; have g9 := hihI); go_simp; first | done | with_reducible rfl)); simp only [Act.put, List.setIfInBounds_toArray, List.set_cons_zero, List.set_cons_succ])
          refine wpAnyH_done (by kernel_rfl) ?_ _
          go_wp2_with fail
          refine ah_start 10 (fun w' => Below we.heap.size we w') rfl (by kernel_rfl) hS.drew ?_ ; clear hS; intro hS
          (refine mv_val 0 (v := ?_) rfl (by kernel_rfl) (by kernel_rfl) (by kernel_rfl) (fun _ _ _ h => h) (by rfl) hS ?_ ?_; rotate_left; (focus (intro w hSw; (try dsimp only at hSw); (obtain ⟨f1', f2', f3'⟩ := HY.out w hSw; obtain ⟨f4, f5, f6⟩ := FV.out w hSw; have f7 := hil; have f8 := hih; have f9 := hilI; have g9 := hihI); go_simp; first | done | with_reducible rfl)); simp only [Act.put, List.setIfInBounds_toArray, List.set_cons_zero, List.set_cons_succ])
          (refine mv_val 1 (v := ?_) rfl (by kernel_rfl) (by kernel_rfl) (by kernel_rfl) (fun _ _ _ h => h) (by rfl) hS ?_ ?_; rotate_left; (focus (intro w hSw; (try dsimp only at hSw); (obtain ⟨f1', f2', f3'⟩ := HY.out w hSw; obtain ⟨f4, f5, f6⟩ := FV.out w hSw; have f7 := hil; have f8 := hih; have f9 := hilI; have g9 := hihI); go_simp; first | done | with_reducible rfl)); simp only [Act.put, List.setIfInBounds_toArray, List.set_cons_zero, List.set_cons_succ])
          (refine mv_val 2 (v := ?_) rfl (by kernel_rfl) (by kernel_rfl) (by kernel_rfl) (fun _ _ _ h => h) (by rfl) hS ?_ ?_; rotate_left; (focus (intro w hSw; (try dsimp only at hSw); (obtain ⟨f1', f2', f3'⟩ := HY.out w hSw; obtain ⟨f4, f5, f6⟩ := FV.out w hSw; have f7 := hil; have f8 := hih; have f9 := hilI; have g9 := hihI); go_simp; first | done | with_reducible rfl)); simp only [Act.put, List.setIfInBounds_toArray, List.set_cons_zero, List.set_cons_succ])
          (refine mv_val 3 (v := ?_) rfl (by kernel_rfl) (by kernel_rfl) (by kernel_rfl) (fun _ _ _ h => h) (by rfl) hS ?_ ?_; rotate_left; (focus (intro w hSw; (try dsimp only at hSw); (obtain ⟨f1', f2', f3'⟩ := HY.out w hSw; obtain ⟨f4, f5, f6⟩ := FV.out w hSw; have f7 := hil; have f8 := hih; have f9 := hilI; have g9 := hihI); go_simp; first | done | with_reducible rfl)); simp only [Act.put, List.setIfInBounds_toArray, List.set_cons_zero, List.set_cons_succ])
          (refine mv_val 4 (v := ?_) rfl (by kernel_rfl) (by kernel_rfl) (by kernel_rfl) (fun _ _ _ h => h) (by rfl) hS ?_ ?_; rotate_left; (focus (intro w hSw; (try dsimp only at hSw); (obtain ⟨f1', f2', f3'⟩ := HY.out w hSw; obtain ⟨f4, f5, f6⟩ := FV.out w hSw; have f7 := hil; have f8 := hih; have f9 := hilI; have g9 := hihI); go_simp; first | done | with_reducible rfl)); simp only [Act.put, List.setIfInBounds_toArray, List.set_cons_zero, List.set_cons_succ])
          (refine mv_val 5 (v := ?_) rfl (by kernel_rfl) (by kernel_rfl) (by kernel_rfl) (fun _ _ _ h => h) (by rfl) hS ?_ ?_; rotate_left; (focus (intro w hSw; (try dsimp only at hSw); (obtain ⟨f1', f2', f3'⟩ := HY.out w hSw; obtain ⟨f4, f5, f6⟩ := FV.out w hSw; have f7 := hil; have f8 := hih; have f9 := hilI; have g9 := hihI); go_simp; first | done | with_reducible rfl)); simp only [Act.put, List.setIfInBounds_toArray, List.set_cons_zero, List.set_cons_succ])
          (refine mv_val 6 (v := ?_) rfl (by kernel_rfl) (by kernel_rfl) (by kernel_rfl) (fun _ _ _ h => h) (by rfl) hS ?_ ?_; rotate_left; (focus (intro w hSw; (try dsimp only at hSw); (obtain ⟨f1', f2', f3'⟩ := HY.out w hSw; obtain ⟨f4, f5, f6⟩ := FV.out w hSw; have f7 := hil; have f8 := hih; have f9 := hilI; have g9 := hihI); go_simp; first | done | with_reducible rfl)); simp only [Act.put, List.setIfInBounds_toArray, List.set_cons_zero, List.set_cons_succ])
          (refine mv_val 7 (v := ?_) rfl (by kernel_rfl) (by kernel_rfl) (by kernel_rfl) (fun _ _ _ h => h) (by rfl) hS ?_ ?_; rotate_left; (focus (intro w hSw; (try dsimp only at hSw); (obtain ⟨f1', f2', f3'⟩ := HY.out w hSw; obtain ⟨f4, f5, f6⟩ := FV.out w hSw; have f7 := hil; have f8 := hih; have f9 := hilI; have g9 := hihI); go_simp; first | done | with_reducible rfl)); simp only [Act.put, List.setIfInBounds_toArray, List.set_cons_zero, List.set_cons_succ])
          (refine mv_val 8 (v := ?_) rfl (by kernel_rfl) (by kernel_rfl) (by kernel_rfl) (fun _ _ _ h => h) (by rfl) hS ?_ ?_; rotate_left; (focus (intro w hSw; (try dsimp only at hSw); (obtain ⟨f1', f2', f3'⟩ := HY.out w hSw; obtain ⟨f4, f5, f6⟩ := FV.out w hSw; have f7 := hil; have f8 := hih; have f9 := hilI; have g9 := hihI); go_simp; first | done | with_reducible rfl)); simp only [Act.put, List.setIfInBounds_toArray, List.set_cons_zero, List.set_cons_succ])
          (refine mv_val 9 (v := ?_) rfl (by kernel_rfl) (by kernel_rfl) (by kernel_rfl) (fun _ _ _ h => h) (by rfl) hS ?_ ?_; rotate_left; (focus (intro w hSw; (try dsimp only at hSw); (obtain ⟨f1', f2', f3'⟩ := HY.out w hSw; obtain ⟨f4, f5, f6⟩ := FV.out w hSw; have f7 := hil; have f8 := hih; have f9 := hilI; have g9 := hihI); go_simp; first | done | with_reducible rfl)); simp only [Act.put, List.setIfInBounds_toArray, List.set_cons_zero, List.set_cons_succ])
          refine wpAnyH_done (by kernel_rfl) ?_ _
          go_wp2_with fail
          refine ah_start 14 (fun w' => Below we.heap.size we w') rfl (by kernel_rfl) hS.drew ?_ ; clear hS; intro hS
          (refine mv_val 0 (v := ?_) rfl (by kernel_rfl) (by kernel_rfl) (by kernel_rfl) (fun _ _ _ h => h) (by rfl) hS ?_ ?_; rotate_left; (focus (intro w hSw; (try dsimp only at hSw); (obtain ⟨f1, f2, f3⟩ := HX.out w hSw; obtain ⟨f1', f2', f3'⟩ := HY.out w hSw; obtain ⟨f4, f5, f6⟩ := FV.out w hSw; have f7 := hil; have f8 := hih; have f9 := hilI; have g9 := hihI); go_simp; first | done | with_reducible rfl)); simp only [Act.put, List.setIfInBounds_toArray, List.set_cons_zero, List.set_cons_succ])
          (refine mv_val 1 (v := ?_) rfl (by kernel_rfl) (by kernel_rfl) (by kernel_rfl) (fun _ _ _ h => h) (by rfl) hS ?_ ?_; rotate_left; (focus (intro w hSw; (try dsimp only at hSw); (obtain ⟨f1, f2, f3⟩ := HX.out w hSw; obtain ⟨f1', f2', f3'⟩ := HY.out w hSw; obtain ⟨f4, f5, f6⟩ := FV.out w hSw; have f7 := hil; have f8 := hih; have f9 := hilI; have g9 := hihI); go_simp; first | done | with_reducible rfl)); simp only [Act.put, List.setIfInBounds_toArray, List.set_cons_zero, List.set_cons_succ])
          (refine mv_val 2 (v := ?_) rfl (by kernel_rfl) (by kernel_rfl) (by kernel_rfl) (fun _ _ _ h => h) (by rfl) hS ?_ ?_; rotate_left; (focus (intro w hSw; (try dsimp only at hSw); (obtain ⟨f1, f2, f3⟩ := HX.out w hSw; obtain ⟨f1', f2', f3'⟩ := HY.out w hSw; obtain ⟨f4, f5, f6⟩ := FV.out w hSw; have f7 := hil; have f8 := hih; have f9 := hilI; have g9 := hihI); go_simp; first | done | with_reducible rfl)); simp only [Act.put, List.setIfInBounds_toArray, List.set_cons_zero, List.set_cons_succ])
          (refine mv_val 3 (v := ?_) rfl (by kernel_rfl) (by kernel_rfl) (by kernel_rfl) (fun _ _ _ h => h) (by rfl) hS ?_ ?_; rotate_left; (focus (intro w hSw; (try dsimp only at hSw); (obtain ⟨f1, f2, f3⟩ := HX.out w hSw; obtain ⟨f1', f2', f3'⟩ := HY.out w hSw; obtain ⟨f4, f5, f6⟩ := FV.out w hSw; have f7 := hil; have f8 := hih; have f9 := hilI; have g9 := hihI); go_simp; first | done | with_reducible rfl)); simp only [Act.put, List.setIfInBounds_toArray, List.set_cons_zero, List.set_cons_succ])
          (refine mv_val 4 (v := ?_) rfl (by kernel_rfl) (by kernel_rfl) (by kernel_rfl) (fun _ _ _ h => h) (by rfl) hS ?_ ?_; rotate_left; (focus (intro w hSw; (try dsimp only at hSw); (obtain ⟨f1, f2, f3⟩ := HX.out w hSw; obtain ⟨f1', f2', f3'⟩ := HY.out w hSw; obtain ⟨f4, f5, f6⟩ := FV.out w hSw; have f7 := hil; have f8 := hih; have f9 := hilI; have g9 := hihI); go_simp; first | done | with_reducible rfl)); simp only [Act.put, List.setIfInBounds_toArray, List.set_cons_zero, List.set_cons_succ])
          (refine mv_call 5 (f := ?_) (args := ?_) rfl (by kernel_rfl) (by rfl) ?_ ?_; rotate_left 2; (focus (go_simp; first | done | with_reducible rfl | (refine ⟨?_, ?_⟩ <;> with_reducible rfl))))
          refine (HL1.out _).mono ?_; rintro e w5 ⟨rfl, hb5⟩
          have hS4 : Below we.heap.size we w5 := hS.trans (hb5.mono hS.size)
          refine ⟨_, rfl, hS4, ?_⟩
          replace hS := hS4
          clear hS4
          simp only [Act.put, List.setIfInBounds_toArray, List.set_cons_zero, List.set_cons_succ]
          (refine mv_val 6 (v := ?_) rfl (by kernel_rfl) (by kernel_rfl) (by kernel_rfl) (fun _ _ _ h => h) (by rfl) hS ?_ ?_; rotate_left; (focus (intro w hSw; (try dsimp only at hSw); (obtain ⟨f1, f2, f3⟩ := HX.out w hSw; obtain ⟨f1', f2', f3'⟩ := HY.out w hSw; obtain ⟨f4, f5, f6⟩ := FV.out w hSw; have f7 := hil; have f8 := hih; have f9 := hilI; have g9 := hihI); go_simp; first | done | with_reducible rfl)); simp only [Act.put, List.setIfInBounds_toArray, List.set_cons_zero, List.set_cons_succ])
          (refine mv_val 7 (v := ?_) rfl (by kernel_rfl) (by kernel_rfl) (by kernel_rfl) (fun _ _ _ h => h) (by rfl) hS ?_ ?_; rotate_left; (focus (intro w hSw; (try dsimp only at hSw); (obtain ⟨f1, f2, f3⟩ := HX.out w hSw; obtain ⟨f1', f2', f3'⟩ := HY.out w hSw; obtain ⟨f4, f5, f6⟩ := FV.out w hSw; have f7 := hil; have f8 := hih; have f9 := hilI; have g9 := hihI); go_simp; first | done | with_reducible rfl)); simp only [Act.put, List.setIfInBounds_toArray, List.set_cons_zero, List.set_cons_succ])
          (refine mv_val 8 (v := ?_) rfl (by kernel_rfl) (by kernel_rfl) (by kernel_rfl) (fun _ _ _ h => h) (by rfl) hS ?_ ?_; rotate_left; (focus (intro w hSw; (try dsimp only at hSw); (obtain ⟨f1, f2, f3⟩ := HX.out w hSw; obtain ⟨f1', f2', f3'⟩ := HY.out w hSw; obtain ⟨f4, f5, f6⟩ := FV.out w hSw; have f7 := hil; have f8 := hih; have f9 := hilI; have g9 := hihI); go_simp; first | done | with_reducible rfl)); simp only [Act.put, List.setIfInBounds_toArray, List.set_cons_zero, List.set_cons_succ])
          (refine mv_val 9 (v := ?_) rfl (by kernel_rfl) (by kernel_rfl) (by kernel_rfl) (fun _ _ _ h => h) (by rfl) hS ?_ ?_; rotate_left; (focus (intro w hSw; (try dsimp only at hSw); (obtain ⟨f1, f2, f3⟩ := HX.out w hSw; obtain ⟨f1', f2', f3'⟩ := HY.out w hSw; obtain ⟨f4, f5, f6⟩ := FV.out w hSw; have f7 := hil; have f8 := hih; have f9 := hilI; have g9 := hihI); go_simp; first | done | with_reducible rfl)); simp only [Act.put, List.setIfInBounds_toArray, List.set_cons_zero, List.set_cons_succ])
          (refine mv_val 10 (v := ?_) rfl (by kernel_rfl) (by kernel_rfl) (by kernel_rfl) (fun _ _ _ h => h) (by rfl) hS ?_ ?_; rotate_left; (focus (intro w hSw; (try dsimp only at hSw); (obtain ⟨f1, f2, f3⟩ := HX.out w hSw; obtain ⟨f1', f2', f3'⟩ := HY.out w hSw; obtain ⟨f4, f5, f6⟩ := FV.out w hSw; have f7 := hil; have f8 := hih; have f9 := hilI; have g9 := hihI); go_simp; first | done | with_reducible rfl)); simp only [Act.put, List.setIfInBounds_toArray, List.set_cons_zero, List.set_cons_succ])
          (refine mv_val 11 (v := ?_) rfl (by kernel_rfl) (by kernel_rfl) (by kernel_rfl) (fun _ _ _ h => h) (by rfl) hS ?_ ?_; rotate_left; (focus (intro w hSw; (try dsimp only at hSw); (obtain ⟨f1, f2, f3⟩ := HX.out w hSw; obtain ⟨f1', f2', f3'⟩ := HY.out w hSw; obtain ⟨f4, f5, f6⟩ := FV.out w hSw; have f7 := hil; have f8 := hih; have f9 := hilI; have g9 := hihI); go_simp; first | done | with_reducible rfl)); simp only [Act.put, List.setIfInBounds_toArray, List.set_cons_zero, List.set_cons_succ])
          (refine mv_call 12 (f := ?_) (args := ?_) rfl (by kernel_rfl) (by rfl) ?_ ?_; rotate_left 2; (focus (go_simp; first | done | with_reducible rfl | (refine ⟨?_, ?_⟩ <;> with_reducible rfl))))
          refine (HL2.out _).mono ?_; rintro e w6 ⟨rfl, hb6⟩
          have hS4 : Below we.heap.size we w6 := hS.trans (hb6.mono hS.size)
          refine ⟨_, rfl, hS4, ?_⟩
          replace hS := hS4
          clear hS4
          simp only [Act.put, List.setIfInBounds_toArray, List.set_cons_zero, List.set_cons_succ]
          (refine mv_val 13 (v := ?_) rfl (by kernel_rfl) (by kernel_rfl) (by kernel_rfl) (fun _ _ _ h => h) (by rfl) hS ?_ ?_; rotate_left; (focus (intro w hSw; (try dsimp only at hSw); (obtain ⟨f1, f2, f3⟩ := HX.out w hSw; obtain ⟨f1', f2', f3'⟩ := HY.out w hSw; obtain ⟨f4, f5, f6⟩ := FV.out w hSw; have f7 := hil; have f8 := hih; have f9 := hilI; have g9 := hihI); go_simp; first | done | with_reducible rfl)); simp only [Act.put, List.setIfInBounds_toArray, List.set_cons_zero, List.set_cons_succ])
          refine wpAnyH_done (by kernel_rfl) ?_ _
          have hbf : Below w4.heap.size w4 w6 := HBE.out.trans (hS.mono HBE.out.size)
          clear hS hb5 hb6
          go_wp2_with fail
          go_roundw
          case rel =>
            refine ⟨k + 1, true, (decide (v = y)), true, by omega, by go_num, rfl, rfl, rfl, ?_, ?_, HH.out, hbf⟩
            · rw [HE.out]; exact mem_yes HLB.out
            · rw [HE.out]; exact mem_more HGB.out
          case measure => simp [intOf]; omega
        · skip
          go_upto_region 17 with fail
          rw [← HWE.out]
          refine ah_start 10 (fun w' => Below we.heap.size we w') rfl (by kernel_rfl) (Below.refl _ _).drew ?_ ; intro hS
          (refine mv_val 0 (v := ?_) rfl (by kernel_rfl) (by kernel_rfl) (by kernel_rfl) (fun _ _ _ h => h) (by rfl) hS ?_ ?_; rotate_left; (focus (intro w hSw; (try dsimp only at hSw); (have f7 := hil; have f8 := hih; have f9 := hilI; have g9 := hihI); go_simp; first | done | with_reducible rfl)); simp only [Act.put, List.setIfInBounds_toArray, List.set_cons_zero, List.set_cons_succ])
          (refine mv_val 1 (v := ?_) rfl (by kernel_rfl) (by kernel_rfl) (by kernel_rfl) (fun _ _ _ h => h) (by rfl) hS ?_ ?_; rotate_left; (focus (intro w hSw; (try dsimp only at hSw); (have f7 := hil; have f8 := hih; have f9 := hilI; have g9 := hihI); go_simp; first | done | with_reducible rfl)); simp only [Act.put, List.setIfInBounds_toArray, List.set_cons_zero, List.set_cons_succ])
          (refine mv_skip 2 rfl (by kernel_rfl) (by kernel_rfl) (by kernel_rfl) (fun _ _ _ h => h) (by rfl) hS ?_; simp only [Act.put, List.setIfInBounds_toArray, List.set_cons_zero, List.set_cons_succ])
          (refine mv_skip 3 rfl (by kernel_rfl) (by kernel_rfl) (by kernel_rfl) (fun _ _ _ h => h) (by rfl) hS ?_; simp only [Act.put, List.setIfInBounds_toArray, List.set_cons_zero, List.set_cons_succ])
          (refine mv_skip 4 rfl (by kernel_rfl) (by kernel_rfl) (by kernel_rfl) (fun _ _ _ h => h) (by rfl) hS ?_; simp only [Act.put, List.setIfInBounds_toArray, List.set_cons_zero, List.set_cons_succ])
          (refine mv_skip 5 rfl (by kernel_rfl) (by kernel_rfl) (by kernel_rfl) (fun _ _ _ h => h) (by rfl) hS ?_; simp only [Act.put, List.setIfInBounds_toArray, List.set_cons_zero, List.set_cons_succ])
          (refine mv_skip 6 rfl (by kernel_rfl) (by kernel_rfl) (by kernel_rfl) (fun _ _ _ h => h) (by rfl) hS ?_; simp only [Act.put, List.setIfInBounds_toArray, List.set_cons_zero, List.set_cons_succ])
          (refine mv_skip 7 rfl (by kernel_rfl) (by kernel_rfl) (by kernel_rfl) (fun _ _ _ h => h) (by rfl) hS ?_; simp only [Act.put, List.setIfInBounds_toArray, List.set_cons_zero, List.set_cons_succ])
          (refine mv_val 8 (v := ?_) rfl (by kernel_rfl) (by kernel_rfl) (by kernel_rfl) (fun _ _ _ h => h) (by rfl) hS ?_ ?_; rotate_left; (focus (intro w hSw; (try dsimp only at hSw); (have f7 := hil; have f8 := hih; have f9 := hilI; have g9 := hihI); go_simp; first | done | with_reducible rfl)); simp only [Act.put, List.setIfInBounds_toArray, List.set_cons_zero, List.set_cons_succ])
          (refine mv_val 9 (v := ?_) rfl (by kernel_rfl) (by kernel_rfl) (by kernel_rfl) (fun _ _ _ h => h) (by rfl) hS ?_ ?_; rotate_left; (focus (intro w hSw; (try dsimp only at hSw); (have f7 := hil; have f8 := hih; have f9 := hilI; have g9 := hihI); go_simp; first | done | with_reducible rfl)); simp only [Act.put, List.setIfInBounds_toArray, List.set_cons_zero, List.set_cons_succ])
          refine wpAnyH_done (by kernel_rfl) ?_ _
          go_wp2_with fail
          refine ah_start 10 (fun w' => Below we.heap.size we w') rfl (by kernel_rfl) hS.drew ?_ ; clear hS; intro hS
          (refine mv_val 0 (v := ?_) rfl (by kernel_rfl) (by kernel_rfl) (by kernel_rfl) (fun _ _ _ h => h) (by rfl) hS ?_ ?_; rotate_left; (focus (intro w hSw; (try dsimp only at hSw); (have f7 := hil; have f8 := hih; have f9 := hilI; have g9 := hihI); go_simp; first | done | with_reducible rfl)); simp only [Act.put, List.setIfInBounds_toArray, List.set_cons_zero, List.set_cons_succ])
          (refine mv_val 1 (v := ?_) rfl (by kernel_rfl) (by kernel_rfl) (by kernel_rfl) (fun _ _ _ h => h) (by rfl) hS ?_ ?_; rotate_left; (focus (intro w hSw; (try dsimp only at hSw); (have f7 := hil; have f8 := hih; have f9 := hilI; have g9 := hihI); go_simp; first | done | with_reducible rfl)); simp only [Act.put, List.setIfInBounds_toArray, List.set_cons_zero, List.set_cons_succ])
          (refine mv_skip 2 rfl (by kernel_rfl) (by kernel_rfl) (by kernel_rfl) (fun _ _ _ h => h) (by rfl) hS ?_; simp only [Act.put, List.setIfInBounds_toArray, List.set_cons_zero, List.set_cons_succ])
          (refine mv_skip 3 rfl (by kernel_rfl) (by kernel_rfl) (by kernel_rfl) (fun _ _ _ h => h) (by rfl) hS ?_; simp only [Act.put, List.setIfInBounds_toArray, List.set_cons_zero, List.set_cons_succ])
          (refine mv_skip 4 rfl (by kernel_rfl) (by kernel_rfl) (by kernel_rfl) (fun _ _ _ h => h) (by rfl) hS ?_; simp only [Act.put, List.setIfInBounds_toArray, List.set_cons_zero, List.set_cons_succ])
          (refine mv_skip 5 rfl (by kernel_rfl) (by kernel_rfl) (by kernel_rfl) (fun _ _ _ h => h) (by rfl) hS ?_; simp only [Act.put, List.setIfInBounds_toArray, List.set_cons_zero, List.set_cons_succ])
          (refine mv_skip 6 rfl (by kernel_rfl) (by kernel_rfl) (by kernel_rfl) (fun _ _ _ h => h) (by rfl) hS ?_; simp only [Act.put, List.setIfInBounds_toArray, List.set_cons_zero, List.set_cons_succ])
          (refine mv_skip 7 rfl (by kernel_rfl) (by kernel_rfl) (by kernel_rfl) (fun _ _ _ h => h) (by rfl) hS ?_; simp only [Act.put, List.setIfInBounds_toArray, List.set_cons_zero, List.set_cons_succ])
          (refine mv_val 8 (v := ?_) rfl (by kernel_rfl) (by kernel_rfl) (by kernel_rfl) (fun _ _ _ h => h) (by rfl) hS ?_ ?_; rotate_left; (focus (intro w hSw; (try dsimp only at hSw); (have f7 := hil; have f8 := hih; have f9 := hilI; have g9 := hihI); go_simp; first | done | with_reducible rfl)); simp only [Act.put, List.setIfInBounds_toArray, List.set_cons_zero, List.set_cons_succ])
          (refine mv_val 9 (v := ?_) rfl (by kernel_rfl) (by kernel_rfl) (by kernel_rfl) (fun _ _ _ h => h) (by rfl) hS ?_ ?_; rotate_left; (focus (intro w hSw; (try dsimp only at hSw); (have f7 := hil; have f8 := hih; have f9 := hilI; have g9 := hihI); go_simp; first | done | with_reducible rfl)); simp only [Act.put, List.setIfInBounds_toArray, List.set_cons_zero, List.set_cons_succ])
          refine wpAnyH_done (by kernel_rfl) ?_ _
          go_wp2_with fail
          refine ah_start 14 (fun w' => Below we.heap.size we w') rfl (by kernel_rfl) hS.drew ?_ ; clear hS; intro hS
          (refine mv_val 0 (v := ?_) rfl (by kernel_rfl) (by kernel_rfl) (by kernel_rfl) (fun _ _ _ h => h) (by rfl) hS ?_ ?_; rotate_left; (focus (intro w hSw; (try dsimp only at hSw); (obtain ⟨f1, f2, f3⟩ := HX.out w hSw; obtain ⟨f1', f2', f3'⟩ := HY.out w hSw; obtain ⟨f4, f5, f6⟩ := FV.out w hSw; have f7 := hil; have f8 := hih; have f9 := hilI; have g9 := hihI); go_simp; first | done | with_reducible rfl)); simp only [Act.put, List.setIfInBounds_toArray, List.set_cons_zero, List.set_cons_succ])
          (refine mv_val 1 (v := ?_) rfl (by kernel_rfl) (by kernel_rfl) (by kernel_rfl) (fun _ _ _ h => h) (by rfl) hS ?_ ?_; rotate_left; (focus (intro w hSw; (try dsimp only at hSw); (obtain ⟨f1, f2, f3⟩ := HX.out w hSw; obtain ⟨f1', f2', f3'⟩ := HY.out w hSw; obtain ⟨f4, f5, f6⟩ := FV.out w hSw; have f7 := hil; have f8 := hih; have f9 := hilI; have g9 := hihI); go_simp; first | done | with_reducible rfl)); simp only [Act.put, List.setIfInBounds_toArray, List.set_cons_zero, List.set_cons_succ])
          (refine mv_val 2 (v := ?_) rfl (by kernel_rfl) (by kernel_rfl) (by kernel_rfl) (fun _ _ _ h => h) (by rfl) hS ?_ ?_; rotate_left; (focus (intro w hSw; (try dsimp only at hSw); (obtain ⟨f1, f2, f3⟩ := HX.out w hSw; obtain ⟨f1', f2', f3'⟩ := HY.out w hSw; obtain ⟨f4, f5, f6⟩ := FV.out w hSw; have f7 := hil; have f8 := hih; have f9 := hilI; have g9 := hihI); go_simp; first | done | with_reducible rfl)); simp only [Act.put, List.setIfInBounds_toArray, List.set_cons_zero, List.set_cons_succ])
          (refine mv_val 3 (v := ?_) rfl (by kernel_rfl) (by kernel_rfl) (by kernel_rfl) (fun _ _ _ h => h) (by rfl) hS ?_ ?_; rotate_left; (focus (intro w hSw; (try dsimp only at hSw); (obtain ⟨f1, f2, f3⟩ := HX.out w hSw; obtain ⟨f1', f2', f3'⟩ := HY.out w hSw; obtain ⟨f4, f5, f6⟩ := FV.out w hSw; have f7 := hil; have f8 := hih; have f9 := hilI; have g9 := hihI); go_simp; first | done | with_reducible rfl)); simp only [Act.put, List.setIfInBounds_toArray, List.set_cons_zero, List.set_cons_succ])
          (refine mv_val 4 (v := ?_) rfl (by kernel_rfl) (by kernel_rfl) (by kernel_rfl) (fun _ _ _ h => h) (by rfl) hS ?_ ?_; rotate_left; (focus (intro w hSw; (try dsimp only at hSw); (obtain ⟨f1, f2, f3⟩ := HX.out w hSw; obtain ⟨f1', f2', f3'⟩ := HY.out w hSw; obtain ⟨f4, f5, f6⟩ := FV.out w hSw; have f7 := hil; have f8 := hih; have f9 := hilI; have g9 := hihI); go_simp; first | done | with_reducible rfl)); simp only [Act.put, List.setIfInBounds_toArray, List.set_cons_zero, List.set_cons_succ])
          (refine mv_call 5 (f := ?_) (args := ?_) rfl (by kernel_rfl) (by rfl) ?_ ?_; rotate_left 2; (focus (go_simp; first | done | with_reducible rfl | (refine ⟨?_, ?_⟩ <;> with_reducible rfl))))
          refine (HL1.out _).mono ?_; rintro e w5 ⟨rfl, hb5⟩
          have hS4 : Below we.heap.size we w5 := hS.trans (hb5.mono hS.size)
          refine ⟨_, rfl, hS4, ?_⟩
          replace hS := hS4
          clear hS4
          simp only [Act.put, List.setIfInBounds_toArray, List.set_cons_zero, List.set_cons_succ]
          (refine mv_val 6 (v := ?_) rfl (by kernel_rfl) (by kernel_rfl) (by kernel_rfl) (fun _ _ _ h => h) (by rfl) hS ?_ ?_; rotate_left; (focus (intro w hSw; (try dsimp only at hSw); (obtain ⟨f1, f2, f3⟩ := HX.out w hSw; obtain ⟨f1', f2', f3'⟩ := HY.out w hSw; obtain ⟨f4, f5, f6⟩ := FV.out w hSw; have f7 := hil; have f8 := hih; have f9 := hilI; have g9 := hihI); go_simp; first | done | with_reducible rfl)); simp only [Act.put, List.setIfInBounds_toArray, List.set_cons_zero, List.set_cons_succ])
          (refine mv_val 7 (v := ?_) rfl (by kernel_rfl) (by kernel_rfl) (by kernel_rfl) (fun _ _ _ h => h) (by rfl) hS ?_ ?_; rotate_left; (focus (intro w hSw; (try dsimp only at hSw); (obtain ⟨f1, f2, f3⟩ := HX.out w hSw; obtain ⟨f1', f2', f3'⟩ := HY.out w hSw; obtain ⟨f4, f5, f6⟩ := FV.out w hSw; have f7 := hil; have f8 := hih; have f9 := hilI; have g9 := hihI); go_simp; first | done | with_reducible rfl)); simp only [Act.put, List.setIfInBounds_toArray, List.set_cons_zero, List.set_cons_succ])
          (refine mv_val 8 (v := ?_) rfl (by kernel_rfl) (by kernel_rfl) (by kernel_rfl) (fun _ _ _ h => h) (by rfl) hS ?_ ?_; rotate_left; (focus (intro w hSw; (try dsimp only at hSw); (obtain ⟨f1, f2, f3⟩ := HX.out w hSw; obtain ⟨f1', f2', f3'⟩ := HY.out w hSw; obtain ⟨f4, f5, f6⟩ := FV.out w hSw; have f7 := hil; have f8 := hih; have f9 := hilI; have g9 := hihI); go_simp; first | done | with_reducible rfl)); simp only [Act.put, List.setIfInBounds_toArray, List.set_cons_zero, List.set_cons_succ])
          (refine mv_val 9 (v := ?_) rfl (by kernel_rfl) (by kernel_rfl) (by kernel_rfl) (fun _ _ _ h => h) (by rfl) hS ?_ ?_; rotate_left; (focus (intro w hSw; (try dsimp only at hSw); (obtain ⟨f1, f2, f3⟩ := HX.out w hSw; obtain ⟨f1', f2', f3'⟩ := HY.out w hSw; obtain ⟨f4, f5, f6⟩ := FV.out w hSw; have f7 := hil; have f8 := hih; have f9 := hilI; have g9 := hihI); go_simp; first | done | with_reducible rfl)); simp only [Act.put, List.setIfInBounds_toArray, List.set_cons_zero, List.set_cons_succ])
          (refine mv_val 10 (v := ?_) rfl (by kernel_rfl) (by kernel_rfl) (by kernel_rfl) (fun _ _ _ h => h) (by rfl) hS ?_ ?_; rotate_left; (focus (intro w hSw; (try dsimp only at hSw); (obtain ⟨f1, f2, f3⟩ := HX.out w hSw; obtain ⟨f1', f2', f3'⟩ := HY.out w hSw; obtain ⟨f4, f5, f6⟩ := FV.out w hSw; have f7 := hil; have f8 := hih; have f9 := hilI; have g9 := hihI); go_simp; first | done | with_reducible rfl)); simp only [Act.put, List.setIfInBounds_toArray, List.set_cons_zero, List.set_cons_succ])
          (refine mv_val 11 (v := ?_) rfl (by kernel_rfl) (by kernel_rfl) (by kernel_rfl) (fun _ _ _ h => h) (by rfl) hS ?_ ?_; rotate_left; (focus (intro w hSw; (try dsimp only at hSw); (obtain ⟨f1, f2, f3⟩ := HX.out w hSw; obtain ⟨f1', f2', f3'⟩ := HY.out w hSw; obtain ⟨f4, f5, f6⟩ := FV.out w hSw; have f7 := hil; have f8 := hih; have f9 := hilI; have g9 := hihI); go_simp; first | done | with_reducible rfl)); simp only [Act.put, List.setIfInBounds_toArray, List.set_cons_zero, List.set_cons_succ])
          (refine mv_call 12 (f := ?_) (args := ?_) rfl (by kernel_rfl) (by rfl) ?_ ?_; rotate_left 2; (focus (go_simp; first | done | with_reducible rfl | (refine ⟨?_, ?_⟩ <;> with_reducible rfl))))
          refine (HL2.out _).mono ?_; rintro e w6 ⟨rfl, hb6⟩
          have hS4 : Below we.heap.size we w6 := hS.trans (hb6.mono hS.size)
          refine ⟨_, rfl, hS4, ?_⟩
          replace hS := hS4
          clear hS4
          simp only [Act.put, List.setIfInBounds_toArray, List.set_cons_zero, List.set_cons_succ]
          (refine mv_val 13 (v := ?_) rfl (by kernel_rfl) (by kernel_rfl) (by kernel_rfl) (fun _ _ _ h => h) (by rfl) hS ?_ ?_; rotate_left; (focus (intro w hSw; (try dsimp only at hSw); (obtain ⟨f1, f2, f3⟩ := HX.out w hSw; obtain ⟨f1', f2', f3'⟩ := HY.out w hSw; obtain ⟨f4, f5, f6⟩ := FV.out w hSw; have f7 := hil; have f8 := hih; have f9 := hilI; have g9 := hihI); go_simp; first | done | with_reducible rfl)); simp only [Act.put, List.setIfInBounds_toArray, List.set_cons_zero, List.set_cons_succ])
          refine wpAnyH_done (by kernel_rfl) ?_ _
          have hbf : Below w4.heap.size w4 w6 := HBE.out.trans (hS.mono HBE.out.size)
          clear hS hb5 hb6
          go_wp2_with fail
          go_roundw
          case rel =>
            refine ⟨k + 1, true, true, true, by omega, by go_num, rfl, rfl, rfl, ?_, ?_, HH.out, hbf⟩
            · rw [HE.out]; exact mem_yes HLB.out
            · rw [HE.out]; exact mem_yes HGB.out
          case measure => simp [intOf]; omega
end Go.Proofs.Ythkpgjcnnfdibaa

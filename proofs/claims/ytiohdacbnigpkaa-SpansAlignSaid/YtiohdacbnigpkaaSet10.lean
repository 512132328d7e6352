/- The walks of spans.both's closure and spans.And (layer 10). For lists of at most 30000 spans. -/
import Derived.Test.YtiohdacbnigpkaaSet9
import Derived.Test.YtiohdacbnigpkaaSetQ
import Derived.RangeFuncNested
import Derived.RangeFuncBound
import Derived.RangeFuncCalls
import Derived.RangeFuncLeaves
import Derived.RangeFuncBox
import Derived.Shelf.Abstract
import Derived.Shelf.RegionOpen
import Derived.OwnWalkIn
import Derived.TacticsInMore
import Derived.LoopNIn
import Derived.LoopIn
namespace Go.Proofs.Ytiohdacbnigpkaa
open Go.RowKit Go.Maps Go.Shelf
set_option linter.unusedVariables false
set_option linter.unusedSimpArgs false
attribute [local go_sem] Oper.semAt_some

theorem grown_below {W W' : World} (h : Below W.heap.size W W') : W.grownBy W' none := ⟨h.os, h.tape, h.output, h.size, fun k hk _ => h.block k hk⟩
/-- the block of the slice that the box O holds -/
def blkO (O : Nat) (W : World) : Option Nat := (W.cell? ⟨O, 0, none⟩).bind Value.ownBlock
/-- all cells lie as they lay, but the box O and the block of the slice that it holds -/
structure KpO (O : Nat) (W W' : World) : Prop where
  size : W.heap.size ≤ W'.heap.size
  keep : ∀ k o, k ≠ O → blkO O W ≠ some k → W.heap[k]? = some o → o.isCells = true → W'.heap[k]? = some o
  blk : ∀ g, blkO O W' = some g → blkO O W = some g ∨ W.heap.size ≤ g
  lt : (∀ g, blkO O W = some g → g < W.heap.size) → ∀ g, blkO O W' = some g → g < W'.heap.size
theorem KpO.refl (O : Nat) (W : World) : KpO O W W := ⟨Nat.le_refl _, fun _ _ _ _ h _ => h, fun _ h => .inl h, fun h => h⟩
theorem KpO.trans {O : Nat} {A B C : World} (h : KpO O A B) (k : KpO O B C) : KpO O A C :=
  ⟨Nat.le_trans h.size k.size, fun i o h1 h2 h3 h4 => k.keep i o h1 (fun e => by
      rcases h.blk i e with h5 | h5
      · exact h2 h5
      · have := (Array.getElem?_eq_some_iff.1 h3).1; omega) (h.keep i o h1 h2 h3 h4) h4,
    fun g hg => by
      rcases k.blk g hg with h5 | h5
      · exact h.blk g h5
      · exact .inr (Nat.le_trans h.size h5), fun hA => k.lt (h.lt hA)⟩
theorem KpO.put {O : Nat} {w : World} (hO : O < w.heap.size) (W : World) (l : Nat) (o o' : Obj) (hl : w.heap.size ≤ l) (h : W.heap[l]? = some o) (hc : o.isCells = false) (_ : o.isWalk = false) : KpO O W (W.putObj l o') := by
  have hne : ∀ k, k ≠ l → (W.putObj l o').heap[k]? = W.heap[k]? := fun k hk => by
    show (W.heap.setIfInBounds l o')[k]? = _
    rw [Array.getElem?_setIfInBounds_ne (fun e => hk e.symm)]
  have hb : blkO O (W.putObj l o') = blkO O W := by
    unfold blkO
    rw [World.cell?_of_block (w := W) (hne O (by omega))]
  have hz : (W.putObj l o').heap.size = W.heap.size := by show (W.heap.setIfInBounds l o').size = _; simp
  refine ⟨by omega, fun k u h1 h2 h3 h4 => ?_, fun g hg => .inl (by rw [← hb]; exact hg), fun hA g hg => by rw [hz]; exact hA g (by rw [← hb]; exact hg)⟩
  by_cases hk : k = l
  · subst hk
    rw [h] at h3; cases h3
    rw [hc] at h4; cases h4
  · rw [hne k hk]; exact h3
theorem KpO.of_below {O : Nat} {A B : World} (hO : O < A.heap.size) (k : Below A.heap.size A B) : KpO O A B := by
  have hb : blkO O B = blkO O A := by
    unfold blkO
    rw [World.cell?_of_block (w := A) (k.block O hO)]
  exact ⟨k.size, fun i o _ _ h3 _ => (k.block i (Array.getElem?_eq_some_iff.1 h3).1).trans h3, fun g hg => .inl (by rw [← hb]; exact hg), fun hA g hg => Nat.lt_of_lt_of_le (hA g (by rw [← hb]; exact hg)) k.size⟩
theorem blk_below {O : Nat} {A B : World} (hO : O < A.heap.size) (k : Below A.heap.size A B) : blkO O B = blkO O A := by
  unfold blkO
  rw [World.cell?_of_block (w := A) (k.block O hO)]
theorem cell_obj {W : World} {p : Addr} {v : Value} (h : W.cell? p = some v) : ∃ o, W.heap[p.block]? = some o ∧ o.isCells = true := by
  unfold World.cell? at h
  split at h
  · rename_i c e f hc; exact ⟨_, hc, rfl⟩
  · cases h
theorem KpO.cell {O : Nat} {W W' : World} (h : KpO O W W') {p : Addr} {v : Value} (hc : W.cell? p = some v) (h1 : p.block ≠ O) (h2 : blkO O W ≠ some p.block) : W'.cell? p = some v := by
  obtain ⟨o, h3, h4⟩ := cell_obj hc
  exact (World.cell?_of_block (w := W) ((h.keep _ o h1 h2 h3 h4).trans h3.symm)).trans hc
section
variable {P : Program} {T E : TypeId} {sz by_ : Nat}
theorem wpListIn_app {F : Fence} {n : Nat} (K : El P T E sz by_) {w : World} {ops : Array Oper} {rest : List Oper} {o : Oper} {a : Act} {Q : Exit → Act → World → Prop} (hgd : o.guard = none) (s x : Operand)
    (ho : o.op = .call { callee := .builtin .append, args := #[s, x], argTypes := #[T, T] })
    {base : Nat} {v : Value} {k : Nat} {xs : List Value} (hown : w.ownsRow base E sz v k xs) (hs : a.eval s = v) {B : Nat} {A : Option Addr} {m c : Nat} {news : List Value} (hx : a.eval x = .slice A m c)
    (hr : Rd w B A news) (hl : news.length = m * sz) (h1 : ∀ u ∈ news, u.oneCell' = true) (h63 : k + m ≤ maxLen) (hbytes : (k + m) * by_ ≤ 140737488355328) (hbase : base ≤ w.heap.size)
    (h : ∀ v' w', w'.ownsRow base E sz v' (k + m) (xs ++ news) → w.grownBy w' v.ownBlock → (v'.ownBlock = v.ownBlock ∨ v'.ownBlock = some w.heap.size) → wpListIn F n P ops Q rest (a.put o.dst v') w') : wpListIn F n P ops Q (o :: rest) a w := by
  refine wpListIn_plain hgd fun K' hK' => ?_
  obtain ⟨v', w', hrun, r1, r2, r3⟩ := run_app (c := c) K w o.type hown hr hl h1 h63 hbytes hbase
  unfold Oper.wpIn
  refine ⟨?_, ?_⟩
  · simp [Oper.about, ho, resolve, Target.leads, Sem.run_pure]
  · rw [Oper.semAt_plain F _ _ (by rw [ho]; intro c hc'; cases hc')]
    simp [execOp, ho, resolve, invoke, builtin, hs, hx, hrun, Result.andThen]
    exact hK' _ _ (h v' w' r1 r2 r3)
end
/-- a block of a span -/
def BoxS (W : World) (B : Nat) (t : TypeId) (s : S2) : Prop := W.heap[B]? = some (.cells #[.int .i64 s.1, .int .i64 s.2] t (0, 0))
theorem BoxS.new (W : World) (t : TypeId) (s : S2) : BoxS (W.alloc (.cells #[.int .i64 s.1, .int .i64 s.2] t)) W.heap.size t s := World.alloc_heap_new W _
theorem BoxS.cells {W : World} {B : Nat} {t : TypeId} {s : S2} (h : BoxS W B t s) : W.cell? ⟨B, 0, none⟩ = some (.int .i64 s.1) ∧ W.cell? ⟨B, 1, none⟩ = some (.int .i64 s.2) := by
  have h1 : W.heap[B]? = _ := h
  exact ⟨by simp [World.cell?, h1], by simp [World.cell?, h1]⟩
theorem boxS_own {β : Type} (B : Nat) (t : TypeId) (f : β → S2) : Own (fun s W => BoxS W B t (f s)) := fun s X Y row hs hg hrow =>
  (hg.block B (Array.getElem?_eq_some_iff.1 hs).1 (fun e' => by obtain ⟨o, ho, hc⟩ := hrow B e'.symm; rw [show X.heap[B]? = _ from hs] at ho; cases ho; cases hc)).trans hs

/-! ### what two lists have in common, one by one -/
theorem full_cons (s : S2) (l : List S2) : full (s :: l) = if s.1 < s.2 then s :: full l else full l := by
  unfold full
  rw [List.filter_cons]
  by_cases h : s.1 < s.2 <;> simp [h]
theorem full_app (a b : List S2) : full (a ++ b) = full a ++ full b := List.filter_append ..
/-- what has come when k spans of x are over, and j of y at span k -/
def metK (x y : List S2) (k : Nat) : List S2 := full (andL (x.take k) y)
def metJ (u : S2) (y : List S2) (j : Nat) : List S2 := full ((y.take j).map (andS u))
theorem metK_succ {x : List S2} {k : Nat} {u : S2} (y : List S2) (h : x[k]? = some u) : metK x y (k + 1) = metK x y k ++ metJ u y y.length := by
  unfold metK metJ andL
  rw [List.take_add_one, h, List.flatMap_append, full_app, List.take_length]
  simp
theorem metJ_succ {y : List S2} {j : Nat} {v : S2} (u : S2) (h : y[j]? = some v) : metJ u y (j + 1) = metJ u y j ++ (if (andS u v).1 < (andS u v).2 then [andS u v] else []) := by
  unfold metJ
  rw [List.take_add_one, h, List.map_append, full_app]
  congr 1
  show full [andS u v] = _
  rw [full_cons]; rfl
theorem metK_zero (x y : List S2) : metK x y 0 = [] := rfl
theorem metJ_zero (u : S2) (y : List S2) : metJ u y 0 = [] := rfl
theorem metJ_len (u : S2) (y : List S2) (j : Nat) : (metJ u y j).length ≤ y.length := by
  unfold metJ
  refine Nat.le_trans (List.length_filter_le _ _) ?_
  rw [List.length_map, List.length_take]; omega
theorem metK_len (x y : List S2) : ∀ k, (metK x y k).length ≤ k * y.length
  | 0 => by rw [metK_zero]; simp
  | k + 1 => by
    have ih := metK_len x y k
    rcases h : x[k]? with _ | u
    · have : x.take (k + 1) = x.take k := by rw [List.take_add_one, h]; simp
      have e : metK x y (k + 1) = metK x y k := by unfold metK; rw [this]
      rw [e, Nat.succ_mul]; omega
    · rw [metK_succ y h, List.length_append, Nat.succ_mul]
      have := metJ_len u y y.length
      omega
/-- what is there is less than all -/
theorem met_lt {x y : List S2} {k j : Nat} {u v : S2} (hx : x[k]? = some u) (hy : y[j]? = some v) (h : (andS u v).1 < (andS u v).2) : (metK x y k ++ metJ u y j).length < (metK x y x.length).length := by
  have hk : k < x.length := (List.getElem?_eq_some_iff.1 hx).1
  have hj : j < y.length := (List.getElem?_eq_some_iff.1 hy).1
  have h1 : ∀ d, (metJ u y j).length ≤ (metJ u y (j + d)).length := by
    intro d
    induction d with
    | zero => exact Nat.le_refl _
    | succ d ih =>
      rcases hv : y[j + d]? with _ | v'
      · have : y.take (j + d + 1) = y.take (j + d) := by rw [List.take_add_one, hv]; simp
        have e : metJ u y (j + d + 1) = metJ u y (j + d) := by unfold metJ; rw [this]
        rw [← Nat.add_assoc, e]; exact ih
      · rw [← Nat.add_assoc, metJ_succ u hv, List.length_append]; omega
  have h1' : (metJ u y j).length + 1 ≤ (metJ u y y.length).length := by
    have h2 : ∀ d, (metJ u y (j + 1)).length ≤ (metJ u y (j + 1 + d)).length := by
      intro d
      induction d with
      | zero => exact Nat.le_refl _
      | succ d ih =>
        rcases hv : y[j + 1 + d]? with _ | v'
        · have : y.take (j + 1 + d + 1) = y.take (j + 1 + d) := by rw [List.take_add_one, hv]; simp
          have e : metJ u y (j + 1 + d + 1) = metJ u y (j + 1 + d) := by unfold metJ; rw [this]
          rw [← Nat.add_assoc, e]; exact ih
        · rw [← Nat.add_assoc, metJ_succ u hv, List.length_append]; omega
    have h3 := h2 (y.length - (j + 1))
    rw [show j + 1 + (y.length - (j + 1)) = y.length by omega, metJ_succ u hy, if_pos h, List.length_append] at h3
    simpa using h3
  have h4 : ∀ d, (metK x y (k + 1)).length ≤ (metK x y (k + 1 + d)).length := by
    intro d
    induction d with
    | zero => exact Nat.le_refl _
    | succ d ih =>
      rcases hv : x[k + 1 + d]? with _ | v'
      · have : x.take (k + 1 + d + 1) = x.take (k + 1 + d) := by rw [List.take_add_one, hv]; simp
        have e : metK x y (k + 1 + d + 1) = metK x y (k + 1 + d) := by unfold metK; rw [this]
        rw [← Nat.add_assoc, e]; exact ih
      · rw [← Nat.add_assoc, metK_succ y hv, List.length_append]; omega
  have h5 := h4 (x.length - (k + 1))
  rw [show k + 1 + (x.length - (k + 1)) = x.length by omega, metK_succ y hx, List.length_append] at h5
  rw [List.length_append]
  omega
/-- span.And, as one span -/
def andV (u v : S2) : S2 := if (andS u v).1 < (andS u v).2 then andS u v else (0, 0)
theorem andV_any (u v : S2) (w : World) : Calls Try.prog 62 #[sa u, sa v] w fun e w' => e = .returned (sa (andV u v)) ∧ Below w.heap.size w w' := by
  have H := and_any u.1 u.2 v.1 v.2 w
  by_cases h : (andS u v).1 < (andS u v).2
  · have e0 : andV u v = andS u v := if_pos h
    unfold andS at h
    dsimp only at h
    have e1 : andF u.1 u.2 v.1 v.2 = max u.1 v.1 := if_neg (by omega)
    have e2 : andT u.1 u.2 v.1 v.2 = min u.2 v.2 := if_neg (by omega)
    rw [e1, e2] at H
    rw [e0]
    exact H
  · have e0 : andV u v = (0, 0) := if_neg h
    unfold andS at h
    dsimp only at h
    have e1 : andF u.1 u.2 v.1 v.2 = 0 := if_pos (by omega)
    have e2 : andT u.1 u.2 v.1 v.2 = 0 := if_pos (by omega)
    rw [e1, e2] at H
    rw [e0]
    exact H

set_option maxRecDepth 100000 in
set_option maxHeartbeats 4000000 in
theorem both1_in (n : Nat) (hn : 1 ≤ n) (l Ba Bb O : Nat) (A A' : Option Addr) (c c' : Nat) (x y : List S2) (hx : x.length ≤ 30000) (hy : y.length ≤ 30000) (J Jx : List S2 → World → Prop) (W : World) (hOW : O < W.heap.size) (hbO : blkO O W = none) (hJ : AbidesFrom W.heap.size J)
    (hY : ∀ pre s W, J pre W → pre.length < (metK x y x.length).length → YieldAt Fence.wide (n - 1) Try.prog l #[sa s] W fun e W' =>
      (e = .returned (.bool true) ∧ J (pre ++ [s]) W' ∧ KpO O W W') ∨ (e = .returned (.bool false) ∧ Jx (pre ++ [s]) W'))
    (hBa : W.cell? ⟨Ba, 0, none⟩ = some (.slice A x.length c)) (hBb : W.cell? ⟨Bb, 0, none⟩ = some (.slice A' y.length c')) (hBaO : Ba ≠ O) (hBbO : Bb ≠ O)
    (hLa : Rd W W.heap.size A (scells x)) (hLb : Rd W W.heap.size A' (scells y)) (hAO : ∀ b o, A = some ⟨b, o, none⟩ → b ≠ O) (hAO' : ∀ b o, A' = some ⟨b, o, none⟩ → b ≠ O) (h0 : J [] W) :
    CallsIn Fence.wide n Try.prog 61 #[.func (.yield l) #[] #[], .pointer (some ⟨Ba, 0, none⟩), .pointer (some ⟨Bb, 0, none⟩)] W fun e W' => (∃ v, e = .returned v) ∧
      ((∃ ys, ys = metK x y x.length ∧ J ys W') ∨ (∃ pre, True ∧ Jx pre W')) := by
  have hbn : ∀ k, blkO O W ≠ some k := fun k => by rw [hbO]; simp
  have hltW : ∀ g, blkO O W = some g → g < W.heap.size := fun g h => by rw [hbO] at h; cases h
  have HJ := Lib.hid (fun pre W1 W2 (h : J pre W1) (hb : Below W1.heap.size W1 W2) => hJ pre W1 W2 none h (grown_below hb) (fun r e => by cases e))
  clear hJ hbO
  refine callsIn_of_wp Try.func61 rfl trivial ?_ rfl
  simp only [Try.ntmps61, List.size_toArray, List.length_cons, List.length_nil, Nat.reduceAdd, Nat.reduceSub, Array.replicate_succ, Array.replicate_zero, List.push_toArray, List.append_toArray, List.nil_append, List.cons_append]
  gi_wp2
  gi_loopw [11] (fun v11 wr => ∃ k : Nat, k ≤ x.length ∧ v11 = .int .i64 k ∧ J (metK x y k) wr ∧ KpO O W wr) (fun v11 _ => x.length - (intOf v11).toNat)
  case atStart => exact ⟨0, Nat.zero_le _, rfl, h0, KpO.refl _ _⟩
  case round =>
    obtain ⟨k, hk, rfl, hJk, hkp⟩ := hrel
    by_cases hlt : k < x.length
    case neg =>
      have hkk : k = x.length := by omega
      have hge : (x.length : Int) ≤ (k : Int) := by omega
      rw [hkk] at hJk
      have HJK := Lib.hid hJk
      clear hkk hJk
      gi_wp2
      go_end0
      exact ⟨⟨_, rfl⟩, .inl ⟨_, rfl, HJK.out⟩⟩
    obtain ⟨u, hu⟩ : ∃ v, x[k]? = some v := ⟨_, List.getElem?_eq_getElem hlt⟩
    obtain ⟨gb, go, rfl, hgb, q0, q1⟩ := rd_span hLa hu
    have hgO := hAO gb go rfl
    have r0 := hkp.cell (p := ⟨gb, go + k * 2, none⟩) q0 hgO (hbn _)
    have r1 := hkp.cell (p := ⟨gb, go + k * 2 + 1, none⟩) q1 hgO (hbn _)
    have rb := hkp.cell (p := ⟨Bb, 0, none⟩) hBb hBbO (hbn _)
    have rba := cell_al rb (cell_lt rb) (.cells #[.int .i64 u.1, .int .i64 u.2] 27)
    have hkI : (k : Int) < (x.length : Int) := by omega
    have HU := Lib.hid hu
    have HMK := Lib.hid (metK_succ y hu)
    have hlk := metK_len x y k
    clear q0 q1 hu
    have hOr : O < wr.heap.size := Nat.lt_of_lt_of_le hOW hkp.size
    have hltr := hkp.lt hltW
    gi_wp2
    obtain ⟨wd, hwd⟩ : ∃ wd, wd = (wr.alloc (.cells #[.int .i64 u.1, .int .i64 u.2] 27)) := ⟨_, rfl⟩
    have hbD : Below wr.heap.size wr wd := by rw [hwd]; exact (Below.refl _ wr).alloc (Nat.le_refl _) _
    obtain ⟨d0, d1⟩ := sc_block wr (.int .i64 u.1) (.int .i64 u.2) 27
    rw [← hwd] at d0 d1 ⊢
    have hkpD := hkp.trans (KpO.of_below hOr hbD)
    have hzD : wr.heap.size < wd.heap.size := by rw [hwd]; simp
    have hJD := HJ.out _ _ _ hJk hbD
    have hblD := blk_below hOr hbD
    obtain ⟨X, hX⟩ : ∃ X, X = wr.heap.size := ⟨_, rfl⟩
    have hXO : X ≠ O := by omega
    have hXb : blkO O wd ≠ some X := fun e => by
      have := hltr X (by rw [← hblD]; exact e)
      omega
    have hltD := hkpD.lt hltW
    have hOD : O < wd.heap.size := by omega
    rw [← hX] at d0 d1 ⊢
    have hrb := cell_be rb hbD (cell_lt rb)
    have HM0 := Lib.hid (metJ_zero u y)
    have HJD := Lib.hid hJD
    clear hwd hbD r0 r1 rb rba hblD hX hJD hJk
    gi_wp2
    gi_loopw [17] (fun v17 wi => ∃ j : Nat, j ≤ y.length ∧ v17 = .int .i64 j ∧ J (metK x y k ++ metJ u y j) wi ∧ KpO O wd wi) (fun v17 _ => y.length - (intOf v17).toNat)
    case atStart => exact ⟨0, Nat.zero_le _, rfl, by rw [HM0.out, List.append_nil]; exact HJD.out, KpO.refl _ _⟩
    case round =>
      obtain ⟨j, hj, rfl, hJj, hkj⟩ := hrel
      by_cases hlj : j < y.length
      case neg =>
        have hjj : j = y.length := by omega
        have hge : (y.length : Int) ≤ (j : Int) := by omega
        rw [hjj, ← HMK.out] at hJj
        have HJJ := Lib.hid hJj
        clear hjj hJj
        gi_wp2
        go_roundw
        case rel => exact ⟨k + 1, by omega, by go_num, HJJ.out, hkpD.trans hkj⟩
        case measure => simp [intOf]; omega
      obtain ⟨v, hv⟩ : ∃ v, y[j]? = some v := ⟨_, List.getElem?_eq_getElem hlj⟩
      obtain ⟨gy, oy, rfl, hgy, p0, p1⟩ := rd_span hLb hv
      have hgyO := hAO' gy oy rfl
      have hkpI := hkpD.trans hkj
      have s0 := hkpI.cell (p := ⟨gy, oy + j * 2, none⟩) p0 hgyO (hbn _)
      have s1 := hkpI.cell (p := ⟨gy, oy + j * 2 + 1, none⟩) p1 hgyO (hbn _)
      have x0 := hkj.cell (p := ⟨X, 0, none⟩) d0 hXO hXb
      have x1 := hkj.cell (p := ⟨X, 1, none⟩) d1 hXO hXb
      have xa0 := cell_al x0 (cell_lt x0) (.cells #[.int .i64 v.1, .int .i64 v.2] 27)
      have xa1 := cell_al x1 (cell_lt x1) (.cells #[.int .i64 v.1, .int .i64 v.2] 27)
      have hljI : (j : Int) < (y.length : Int) := by omega
      have HU2 := Lib.hid (HU.out)
      have HV := Lib.hid hv
      have hOi : O < wr.heap.size := Nat.lt_of_lt_of_le hOD hkj.size
      have A0 := fun w => andV_any u v w
      have hmj := metJ_succ u hv
      have hcs : ((andS u v).1 < (andS u v).2 ∧ andV u v = andS u v ∧ emptyS (andV u v) = false) ∨ (¬ (andS u v).1 < (andS u v).2 ∧ emptyS (andV u v) = true) := by
        by_cases h : (andS u v).1 < (andS u v).2
        · have e0 : andV u v = andS u v := if_pos h
          exact .inl ⟨h, e0, by rw [e0]; unfold emptyS; simp; exact h⟩
        · have e0 : andV u v = (0, 0) := if_neg h
          exact .inr ⟨h, by rw [e0]; rfl⟩
      obtain ⟨s, hs⟩ : ∃ s, s = andV u v := ⟨_, rfl⟩
      rw [← hs] at hcs
      have A1 : ∀ w, Calls Try.prog 62 #[sa u, sa v] w fun e w' => e = .returned (sa s) ∧ Below w.heap.size w w' := fun w => by rw [hs]; exact A0 w
      have E0 := fun w => emptyS_any s w
      have HA := Lib.hid A1
      clear hs A0 A1 hv p0 p1
      obtain ⟨eb, heb⟩ : ∃ b, b = emptyS s := ⟨_, rfl⟩
      rw [← heb] at hcs E0
      have HE := Lib.hid E0
      have HMJ := Lib.hid hmj
      have HCS := Lib.hid hcs
      have HJJ := Lib.hid hJj
      clear E0 heb hmj hcs hJj
      gi_wp2_with fail
      refine ⟨trivial, ?_⟩
      refine (callsIn_wide.2 (HA.out _)).mono ?_; rintro e w2 ⟨rfl, hb2⟩
      have hb02 : Below wr.heap.size wr w2 := ((Below.refl _ wr).alloc (Nat.le_refl _) _).trans (hb2.mono (by simp))
      clear hb2 xa0 xa1 x0 x1 s0 s1
      gi_wp2_with fail
      refine ⟨trivial, ?_⟩
      refine (callsIn_wide.2 (HE.out _)).mono ?_; rintro e w3 ⟨rfl, hb3⟩
      have hb03 : Below wr.heap.size wr w3 := (hb02.alloc hb02.size _).trans (hb3.mono (by have := hb02.size; simp; omega))
      obtain ⟨t0, t1⟩ := sc_block w2 (.int .i64 s.1) (.int .i64 s.2) 27
      have e0 := cell_be t0 hb3 (by simp)
      have e1 := cell_be t1 hb3 (by simp)
      have hJ3 := HJ.out _ _ _ HJJ.out hb03
      have hkp3 := hkj.trans (KpO.of_below hOi hb03)
      clear t0 t1 hb3 hb02
      cases eb
      case true =>
        have hne : ¬ (andS u v).1 < (andS u v).2 := by
          rcases HCS.out with ⟨_, _, h⟩ | ⟨h, _⟩
          · cases h
          · exact Int.not_lt.2 h
        have hnx : metJ u y (j + 1) = metJ u y j := by rw [HMJ.out, if_neg hne, List.append_nil]
        have HNX := Lib.hid hnx
        have HJ3 := Lib.hid hJ3
        clear hne hnx hJ3
        gi_wp2_with fail
        refine ⟨fun _ h => (by cases h), ?_⟩
        gi_wp2_with fail
        go_roundw
        case rel => exact ⟨j + 1, by omega, by go_num, by rw [HNX.out]; exact HJ3.out, hkp3⟩
        case measure => simp [intOf]; omega
      case false =>
        have hlt3 : (andS u v).1 < (andS u v).2 ∧ s = andS u v := by
          rcases HCS.out with ⟨h1, h2, _⟩ | ⟨_, h⟩
          · exact ⟨h1, h2⟩
          · cases h
        have hnx : metK x y k ++ metJ u y (j + 1) = metK x y k ++ metJ u y j ++ [s] := by rw [HMJ.out, if_pos hlt3.1, hlt3.2, List.append_assoc]
        have hlen := met_lt HU2.out HV.out hlt3.1
        obtain ⟨fn, tmps, assign, body, hyy, hRd⟩ := hY _ s w3 hJ3 hlen
        have HNX := Lib.hid hnx
        have HR := Lib.hid hRd
        clear hnx hlt3 hlen hJ3
        gi_wp2_with fail
        refine HR.out.mono ?_
        rintro e w4 (⟨rfl, hJ4, hk4⟩ | ⟨rfl, hJx4⟩)
        · have hkp4 := hkp3.trans hk4
          have HJ4 := Lib.hid hJ4
          clear hJ4
          gi_wp2_with fail
          go_roundw
          case rel => exact ⟨j + 1, by omega, by go_num, by rw [HNX.out]; exact HJ4.out, hkp4⟩
          case measure => simp [intOf]; omega
        · have HJ4 := Lib.hid hJx4
          clear hJx4
          gi_wp2_with fail
          refine bodyPost_ret (results_none rfl _ _ _) rfl ?_
          exact ⟨⟨_, rfl⟩, .inr ⟨_, trivial, HJ4.out⟩⟩
end Go.Proofs.Ytiohdacbnigpkaa

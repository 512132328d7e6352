/- The walk of spans.And (layer 10): it answers the one list in form of what two sets have in common. For lists of at most 30000 spans. -/
import Derived.Test.YtiohdacbnigpkaaSet10
namespace Go.Proofs.Ytiohdacbnigpkaa
open Go.RowKit Go.Maps Go.Shelf
set_option linter.unusedVariables false
set_option linter.unusedSimpArgs false
attribute [local go_sem] Oper.semAt_some

set_option maxHeartbeats 1000000 in
theorem both_in (n : Nat) (A A' : Option Addr) (k k' c c' : Nat) (w : World) :
    CallsIn Fence.wide n Try.prog 41 #[.slice A k c, .slice A' k' c'] w fun e w' => e = .returned (.func (.func 61) #[] #[.pointer (some ⟨w.heap.size, 0, none⟩), .pointer (some ⟨w.heap.size + 1, 0, none⟩)]) ∧ w' = (w.alloc (.cells #[.slice A k c] 22)).alloc (.cells #[.slice A' k' c'] 22) := by
  refine callsIn_of_wp Try.func41 rfl trivial ?_ rfl
  simp only [Try.ntmps41, List.size_toArray, List.length_cons, List.length_nil, Nat.reduceAdd, Nat.reduceSub, Array.replicate_succ, Array.replicate_zero, List.push_toArray, List.append_toArray, List.nil_append, List.cons_append]
  gi_wp2
  go_ret
  exact ⟨rfl, rfl⟩
theorem both_stops (n : Nat) (hn : 1 ≤ n) (Ba Bb O : Nat) (A A' : Option Addr) (c c' : Nat) (x y : List S2) (hx : x.length ≤ 30000) (hy : y.length ≤ 30000) (w : World) (hO : O < w.heap.size) (hbO : blkO O w = none)
    (hBa : w.cell? ⟨Ba, 0, none⟩ = some (.slice A x.length c)) (hBb : w.cell? ⟨Bb, 0, none⟩ = some (.slice A' y.length c')) (hBaO : Ba ≠ O) (hBbO : Bb ≠ O)
    (hLa : Rd w w.heap.size A (scells x)) (hLb : Rd w w.heap.size A' (scells y)) (hAO : ∀ b o, A = some ⟨b, o, none⟩ → b ≠ O) (hAO' : ∀ b o, A' = some ⟨b, o, none⟩ → b ≠ O) :
    SeqStopsK Fence.wide n Try.prog 61 #[.pointer (some ⟨Ba, 0, none⟩), .pointer (some ⟨Bb, 0, none⟩)] (fun s : S2 => #[sa s]) (KpO O) (fun ys => ys = metK x y x.length) (fun _ => True) (metK x y x.length).length w := fun l J Jx W hW hJ _ hY h0 =>
  both1_in n hn l Ba Bb O A A' c c' x y hx hy J Jx W (Nat.lt_of_lt_of_le hO hW.size) (by rw [blk_below hO hW]; exact hbO) hJ hY (cell_be hBa hW (cell_lt hBa)) (cell_be hBb hW (cell_lt hBb)) hBaO hBbO ((hLa.below hW).more hW.size) ((hLb.below hW).more hW.size) hAO hAO' h0
theorem metK_all (x y : List S2) : metK x y x.length = full (andL x y) := by unfold metK; rw [List.take_length]
/-- a box behind an append of the slice that it holds, and the store of what came -/
theorem boxed_app {O : Nat} {W w1 : World} {T E : TypeId} {M : Nat} {v v' : Value} {k m : Nat} {xs ys : List Value} {tmp : Obj} (hv : Boxed W O T v) (hTE : T ≠ E) (hO : O < M) (hrow : W.ownsRow M E 2 v k xs) (hM : M ≤ W.heap.size)
    (hown' : w1.ownsRow M E 2 v' m ys) (hg : (W.alloc tmp).grownBy w1 v.ownBlock) (hb : v'.ownBlock = v.ownBlock ∨ v'.ownBlock = some (W.alloc tmp).heap.size) :
    KpO O W (w1.setCell ⟨O, 0, none⟩ v') := by
  have h1 : blkO O W = v.ownBlock := by unfold blkO; rw [hv.cell]; rfl
  have hv1 : Boxed w1 O T v := (hv.alloc tmp).kept hg (hv.not_row hTE hrow)
  have h2 : blkO O (w1.setCell ⟨O, 0, none⟩ v') = v'.ownBlock := by unfold blkO; rw [(hv1.set v').cell]; rfl
  have hz : (w1.setCell ⟨O, 0, none⟩ v').heap.size = w1.heap.size := by simp [World.setCell]
  have hzg := hg.size
  rw [World.size_alloc] at hzg
  refine ⟨by omega, fun i o h3 h4 h5 h6 => ?_, fun g hg' => ?_, fun hlt g hg' => ?_⟩
  · have hi := (Array.getElem?_eq_some_iff.1 h5).1
    rw [Below.heap_setCell _ _ _ _ h3, hg.block i (by simp; omega) (fun e => h4 (by rw [h1]; exact e.symm)), Below.heap_alloc _ _ _ hi]
    exact h5
  · rw [h2] at hg'
    rcases hb with h | h
    · left; rw [h1, ← h]; exact hg'
    · right; rw [h] at hg'; simp at hg'; omega
  · rw [h2] at hg'
    have := (hown'.lt g hg').2
    omega

theorem boxed_keeps {W w1 : World} {B M : Nat} {T E : TypeId} {v v' : Value} {k : Nat} {xs : List Value} {tmp : Obj} (hv : Boxed W B T v) (hrow : W.ownsRow M E 2 v k xs) (hg : (W.alloc tmp).grownBy w1 v.ownBlock) : KeepsOthers W (w1.setCell ⟨B, 0, none⟩ v') := by
  refine ((KeepsOthers.alloc W tmp).trans (KeepsOthers.of_grownBy hg fun j o ej hj => ?_)).trans (KeepsOthers.setCell _ _ _)
  rcases (hrow.alloc tmp).2 with ⟨rfl, _⟩ | ⟨g, cap, cur, rfl, _, hgb, _⟩
  · simp [Value.ownBlock] at ej
  · obtain rfl : g = j := by simpa [Value.ownBlock] using ej
    rw [hgb] at hj; cases hj; rfl
set_option maxRecDepth 100000 in
set_option maxHeartbeats 4000000 in
theorem sAnd_any (B : Nat) (A A' : Option Addr) (c c' : Nat) (a b : List S2) (w : World) (ha : Rd w B A (scells a)) (hb : Rd w B A' (scells b)) (hB : B ≤ w.heap.size) (hal : a.length ≤ 30000) (hbl : b.length ≤ 30000) :
    Calls Try.prog 18 #[.slice A a.length c, .slice A' b.length c'] w (RetSs w (nf fun t => hasB a t && hasB b t)) := by
  obtain ⟨by_, HEL, hby⟩ := El_span
  have hob : ∀ x, w.heap.size ≤ (w.alloc x).heap.size := fun x => by simp
  have HA := Lib.hid (of_any B A c a (w.alloc (.cells #[.slice none 0 0] 22)) (ha.alloc hB _) (by simp; omega) (by omega))
  have HB := Lib.hid (fun w' (h : Below w.heap.size w w') => of_any B A' c' b w' (hb.below (h.mono hB)) (by have := h.size; omega) (by omega))
  have hla := ofL_len a
  have hlb := ofL_len b
  have hfin : nf (fun t => hasB a t && hasB b t) = ofL (metK (ofL a) (ofL b) (ofL a).length) := by
    show _ = nf (hasB _)
    congr 1; funext t
    rw [metK_all, hasB_full, hasB_and, ofL_has, ofL_has]
  have HF := Lib.hid hfin
  obtain ⟨x, hx⟩ : ∃ x, x = ofL a := ⟨_, rfl⟩
  obtain ⟨y, hy⟩ : ∃ y, y = ofL b := ⟨_, rfl⟩
  rw [← hx] at HA hla HF
  rw [← hy] at HB hlb HF
  have hxl : x.length ≤ 30000 := by omega
  have hyl : y.length ≤ 30000 := by omega
  have hml : (metK x y x.length).length ≤ 900000000 := Nat.le_trans (metK_len x y x.length) (by
    have := Nat.mul_le_mul hxl hyl; omega)
  obtain ⟨r, hR⟩ : ∃ r, r = nf (fun t => hasB a t && hasB b t) := ⟨_, rfl⟩
  rw [← hR] at HF ⊢
  clear hx hy ha hb hfin hla hlb hR
  refine (callsIn_wide (n := 4)).1 ?_
  refine callsIn_of_wp_marks Try.func18 rfl trivial ?_ rfl
  simp only [Try.ntmps18, List.size_toArray, List.length_cons, List.length_nil, Nat.reduceAdd, Nat.reduceSub, Array.replicate_succ, Array.replicate_zero, List.push_toArray, List.append_toArray, List.nil_append, List.cons_append]
  gi_wp2_with fail
  refine ⟨trivial, ?_⟩
  refine (callsIn_wide.2 HA.out).mono ?_; rintro e w1 ⟨A1, c1, rfl, hown1, hb1⟩
  have hb01 : Below w.heap.size w w1 := ((Below.refl _ w).alloc (Nat.le_refl _) _).trans (hb1.mono (by simp))
  have bO1 : Boxed w1 w.heap.size 22 (.slice none 0 0) := (hb1.block w.heap.size (by simp)).trans (Boxed.new w _ _)
  have hz1 := hb1.size
  simp at hz1
  gi_wp2_with fail
  refine ⟨trivial, ?_⟩
  refine (callsIn_wide.2 (HB.out w1 hb01)).mono ?_; rintro e w2 ⟨A2, c2, rfl, hown2, hb2⟩
  have hb02 : Below w.heap.size w w2 := hb01.trans (hb2.mono hb01.size)
  have bO2 : Boxed w2 w.heap.size 22 (.slice none 0 0) := (hb2.block w.heap.size (by omega)).trans bO1
  have hown12 := own_bel hown1 hb2
  have hz2 := hb2.size
  simp only [World.size_alloc] at hown12
  gi_wp2_with fail
  refine ⟨trivial, ?_⟩
  refine (both_in _ _ _ _ _ _ _ _).mono ?_; rintro e w3 ⟨rfl, hw3⟩
  have hx3 : Rd w3 w3.heap.size A1 (scells x) := by rw [hw3]; exact (((rd_own hown12).alloc (Nat.le_refl _) _).alloc (by simp) _).more (by simp; omega)
  have hy3 : Rd w3 w3.heap.size A2 (scells y) := by rw [hw3]; exact (((rd_own hown2).alloc (Nat.le_refl _) _).alloc (by simp) _).more (by simp; omega)
  have bO3 : Boxed w3 w.heap.size 22 (.slice none 0 0) := by rw [hw3]; exact (bO2.alloc _).alloc _
  have bA3 : w3.cell? ⟨w2.heap.size, 0, none⟩ = some (.slice A1 x.length c1) := by rw [hw3]; exact ((Boxed.new w2 _ _).alloc _).cell
  have bB3 : w3.cell? ⟨w2.heap.size + 1, 0, none⟩ = some (.slice A2 y.length c2) := by
    have := (Boxed.new (w2.alloc (.cells #[.slice A1 x.length c1] 22)) 22 (.slice A2 y.length c2)).cell
    rw [World.size_alloc] at this
    rw [hw3]; exact this
  have hb03 : Below w.heap.size w w3 := by rw [hw3]; exact (hb02.alloc hb02.size _).alloc (by have := hb02.size; simp; omega) _
  have hz3 : w3.heap.size = w2.heap.size + 2 := by rw [hw3]; simp
  have hA1 : ∀ b o, A1 = some ⟨b, o, none⟩ → b ≠ w.heap.size := fun b o h => by
    have := (hown12.lt b (by rw [h]; rfl)).1
    omega
  have hA2 : ∀ b o, A2 = some ⟨b, o, none⟩ → b ≠ w.heap.size := fun b o h => by
    have := (hown2.lt b (by rw [h]; rfl)).1
    omega
  have hbk : blkO w.heap.size w3 = none := by unfold blkO; rw [bO3.cell]; rfl
  clear hown1 hown12 hown2 hb1 hb2 bO1 bO2 hw3 hb01 hb02
  gi_wp2_with fail
  refine wpIn_rangeFunc_ownH rfl (by omega) (gf := 61) (lb := #[.pointer (some ⟨w2.heap.size, 0, none⟩), .pointer (some ⟨w2.heap.size + 1, 0, none⟩)]) rfl trivial (enters_of Try.func61 (by kernel_rfl) rfl)
    (both_stops _ (by omega) w2.heap.size (w2.heap.size + 1) w.heap.size A1 A2 c1 c2 x y hxl hyl w3 (by omega) hbk bA3 bB3 (by omega) (by omega) hx3 hy3 hA1 hA2) KpO.trans (KpO.put (by omega)) (Below.refl _ _) (fun _ => rfl)
    (fun pre W => (∃ v, Boxed W w.heap.size 22 v ∧ W.ownsRow w3.heap.size 27 2 v pre.length (scells pre) ∧ True) ∧ (Below w.heap.size w W ∧ w3.heap.size ≤ W.heap.size))
    (fun _ _ _ => False)
    (OwnFrom.and (Own.from (holdsRow_own w3.heap.size w.heap.size 22 27 2 (fun pre => pre.length) (fun pre => scells pre) (fun _ _ => True)) _) (OwnFrom.and (ownFrom_below (Nat.le_refl _) (by omega)) (fun _ X Y _ hs hg _ => Nat.le_trans hs hg.size)))
    (fun _ _ _ _ _ hs _ _ => hs)
    ⟨⟨_, bO3, World.ownsRow_nil _ _ _ _, trivial⟩, hb03, Nat.le_refl _⟩
    (fun x' a' W => ∃ Bx, w3.heap.size ≤ Bx ∧ BoxS W Bx 27 x' ∧ a' = { tmps := #[.slice A a.length c, .slice A' b.length c', undef, undef, .slice none 0 0, .pointer (some ⟨w.heap.size, 0, none⟩), .pointer (some ⟨Bx, 0, none⟩), .slice A a.length c, .slice A1 x.length c1, .slice A' b.length c', .slice A2 y.length c2, .func (.func 61) #[] #[.pointer (some ⟨w2.heap.size, 0, none⟩), .pointer (some ⟨w2.heap.size + 1, 0, none⟩)], sa x', undef, undef, undef, undef, undef, undef], defers := [] })
    (fun x' a' _ X Y row hs hg hr => by obtain ⟨Bx, h1, h2, h3⟩ := hs; exact ⟨Bx, h1, boxS_own Bx 27 (fun (_ : Unit) => x') () X Y row h2 hg (fun r e => (hr r e).2), h3⟩)
    ?assign ?body ?done ?stop
  case assign =>
    rintro l pre s W K ⟨⟨v, bO, hrow, _⟩, hB1, hsW⟩ hK
    gi_wp2
    exact hK _ _ ((KeepsOthers.alloc _ _).from _) (KpO.of_below (by omega) ((Below.refl _ W).alloc (Nat.le_refl _) _)) ⟨⟨v, bO.alloc _, hrow.alloc _, trivial⟩, hB1.alloc hB1.size _, by simp; omega⟩ ⟨W.heap.size, hsW, BoxS.new W _ s, rfl⟩
  case body =>
    rintro l pre s a' W hl _ ⟨⟨v, bO, hrow, _⟩, hB1, hsW⟩ ⟨Bx, hBx, bX, rfl⟩ hlt
    obtain ⟨A6, c6, rfl, hc6⟩ := own_form hrow
    have hc := bO.cell
    obtain ⟨x0, x1⟩ := bX.cells
    gi_wp2_with (gi_at_builtin; refine wpListIn_app HEL rfl _ _ rfl (hrow.alloc _) rfl rfl (sc_two s rfl) rfl (sc_one _) (by unfold maxLen; omega) (by have : (pre.length + 1) * by_ ≤ 1000000001 * 64 := Nat.mul_le_mul (by omega) hby; omega) (by simp; omega) ?_; intro v6 w6 hown6 hg6 hor6; have hv6 := (bO.alloc (.cells #[.int .i64 s.1, .int .i64 s.2] 27)).kept hg6 (bO.not_row (by decide) hrow); have hc6' := hv6.cell; have hf6 := hv6.frozen; obtain ⟨g6, cap6, rfl⟩ := ownsRow_succ hown6)
    have hkp := boxed_app bO (by decide) (by omega) hrow hsW hown6 hg6 hor6
    have hko := boxed_keeps (v' := .slice (some ⟨g6, 0, none⟩) (pre.length + 1) cap6) bO hrow hg6
    have hbl : Below w.heap.size w (w6.setCell ⟨w.heap.size, 0, none⟩ (.slice (some ⟨g6, 0, none⟩) (pre.length + 1) cap6)) := ((hB1.alloc hB1.size _).grown hg6 (by simp; omega) (fun k e => by have := (hrow.lt k e).1; omega)).setCell (p := ⟨w.heap.size, 0, none⟩) (Nat.le_refl _) _
    refine ⟨hko.from _, hkp, ⟨_, hv6.set _, ?_, trivial⟩, hbl, ?_⟩
    · rw [List.length_append, scells_snoc]
      exact hown6.kept (grownBy_setCell' w6 w.heap.size _) (.inr (hv6.not_row (by decide) hown6).symm)
    · have h1 := hg6.size
      simp [World.setCell]
      simp at h1
      omega
  case done =>
    rintro D ys W hD hys ⟨⟨v, bO, hrow, _⟩, hB1, hsW⟩ hK
    rw [hys] at hrow
    obtain ⟨A6, c6, rfl, hc6⟩ := own_form hrow
    have hc := bO.cell
    have HO := Lib.hid (of_any W.heap.size A6 c6 (metK x y x.length) W (rd_own hrow) (Nat.le_refl _) (by omega))
    rw [← HF.out] at HO
    have HKD := Lib.hid hK
    clear HF hys hK
    gi_wp2_with fail
    refine ⟨trivial, ?_⟩
    refine (callsIn_wide.2 HO.out).mono ?_; rintro e w7 ⟨A7, c7, rfl, hown7, hb7⟩
    have hK7 : w7.heap[D]? = some (.deferred (some [])) := (hb7.block D (Array.getElem?_eq_some_iff.1 HKD.out).1).trans HKD.out
    have hown8 := own_lower hown7 hB1.size
    have hB7 : Below w.heap.size w w7 := hB1.trans (hb7.mono hB1.size)
    clear hown7 hb7
    gi_wp2_with fail
    refine ⟨by simp, .inl ⟨_, _, rfl, run_takeDeferred hK7, ?_⟩⟩
    exact ⟨_, results_tmp rfl _ _ _, retSs_of (ownsRow_putObj hown8 _ hK7 rfl) (hB7.trans (belowK_b (w := w) (Nat.le_refl _) w7 D _ _ (by omega) hK7 rfl rfl))⟩
  case stop =>
    rintro D c pre W _ _ h _
    exact h.elim
end Go.Proofs.Ytiohdacbnigpkaa

/- The walks of spans.Minus and its closure (layer 10): it answers the one list in form of one set less another one. For at most 10^8 spans. -/
import Derived.Test.YtiohdacbnigpkaaSet11
namespace Go.Proofs.Ytiohdacbnigpkaa
open Go.RowKit Go.Maps Go.Shelf
set_option linter.unusedVariables false
set_option linter.unusedSimpArgs false

theorem nf_len {P : Int → Bool} (a b : List S2) (f : Bool → Bool → Bool) (hf : f false false = false) (h : P = fun t => f (hasB a t) (hasB b t)) : (nf P).length ≤ 2 * (a.length + b.length) := by
  subst h
  rw [← pcK_nf (endsI_asc (a ++ b)) (cut_ends a b f hf)]
  have h1 := pcK_len (fun t => f (hasB a t) (hasB b t)) (endsI (a ++ b)) ((endsI (a ++ b)).length - 1)
  have h2 := endsI_len (a ++ b)
  rw [List.length_append] at h2
  omega
theorem minus_nf {a b : List S2} (ha : formL a) (hb : ∀ y ∈ b, y.1 < y.2) : minusL a b = nf (fun t => hasB a t && !hasB b t) := by
  obtain ⟨h1, h2⟩ := minusL_ok b a ha hb
  exact (nf_of h1 h2).symm
theorem minus_len {a b : List S2} (ha : formL a) (hb : ∀ y ∈ b, y.1 < y.2) : (minusL a b).length ≤ 2 * (a.length + b.length) := by
  rw [minus_nf ha hb]; exact nf_len a b (fun p q => p && !q) rfl rfl
theorem minusL_snoc {a l : List S2} {k : Nat} {y : S2} (h : l[k]? = some y) : minusL a (l.take (k + 1)) = cutL y (minusL a (l.take k)) := by
  unfold minusL
  rw [List.take_add_one, h, List.foldl_append]; rfl
theorem cutL_snoc {y : S2} {l : List S2} {k : Nat} {x : S2} (h : l[k]? = some x) : cutL y (l.take (k + 1)) = cutL y (l.take k) ++ full [(x.1, min x.2 y.1)] ++ full [(max x.1 y.2, x.2)] := by
  unfold cutL
  rw [List.take_add_one, h, List.flatMap_append, List.append_assoc]
  congr 1
  show cutS y x ++ [] = _
  rw [List.append_nil]
  unfold cutS
  rw [← full_app]; rfl
theorem cutL_len (y : S2) : ∀ l : List S2, (cutL y l).length ≤ 2 * l.length
  | [] => by simp [cutL]
  | x :: l => by
    have ih := cutL_len y l
    have h1 : (cutS y x).length ≤ 2 := by
      unfold cutS full
      exact Nat.le_trans (List.length_filter_le _ _) (by simp)
    unfold cutL at ih ⊢
    rw [List.flatMap_cons, List.length_append, List.length_cons]
    omega
set_option maxHeartbeats 1000000 in
set_option maxRecDepth 100000 in
theorem cut_any (O M : Nat) (v : Value) (l : List S2) (s : S2) (w : World) (bO : Boxed w O 22 v) (hOM : O < M) (hM : M ≤ w.heap.size) (hown : w.ownsRow M 27 2 v l.length (scells l)) (hl : l.length ≤ 999999999) :
    Calls Try.prog 42 #[sa s, .pointer (some ⟨O, 0, none⟩)] w fun e w' => e = .returned (.tuple #[]) ∧ ∃ v', Boxed w' O 22 v' ∧ w'.ownsRow M 27 2 v' (l ++ full [s]).length (scells (l ++ full [s])) ∧ Below O w w' ∧ KpO O w w' := by
  obtain ⟨by_, HEL, hby⟩ := El_span
  have hE : full [s] = if emptyS s then [] else [s] := by
    rw [full_cons]
    unfold emptyS
    by_cases h : s.1 < s.2
    · rw [if_pos h, if_neg (by simp; exact h)]; rfl
    · rw [if_neg h, if_pos (by simp; omega)]; rfl
  have E0 := fun w => emptyS_any s w
  obtain ⟨eb, heb⟩ : ∃ b, b = emptyS s := ⟨_, rfl⟩
  rw [← heb] at hE E0
  have HE := Lib.hid E0
  have HF := Lib.hid hE
  clear hE E0 heb
  have hbw : Below w.heap.size w (w.alloc (.cells #[.int .i64 s.1, .int .i64 s.2] 27)) := (Below.refl _ w).alloc (Nat.le_refl _) _
  obtain ⟨t0, t1⟩ := sc_block w (.int .i64 s.1) (.int .i64 s.2) 27
  go_enter Try.func42, Try.ntmps42
  go_wp2_with fail
  refine (HE.out _).mono ?_; rintro e w3 ⟨rfl, hb3⟩
  have hb03 : Below w.heap.size w w3 := hbw.trans (hb3.mono (by simp))
  have e0 := cell_be t0 hb3 (by simp)
  have e1 := cell_be t1 hb3 (by simp)
  have bO3 : Boxed w3 O 22 v := (hb03.block O (by omega)).trans bO
  have hown3 := own_bel hown hb03
  have hkp3 := KpO.of_below (show O < w.heap.size by omega) hb03
  have hM3 : M ≤ w3.heap.size := by have := hb03.size; omega
  have hbO3 : Below O w w3 := hb03.mono (by omega)
  clear t0 t1 hb3 hbw bO hown
  cases eb
  case true =>
    have HO := Lib.hid hown3
    clear hown3
    go_wp2_with fail
    go_end0
    exact ⟨rfl, v, bO3, by rw [show full [s] = [] from HF.out, List.append_nil]; exact HO.out, hbO3, hkp3⟩
  case false =>
    obtain ⟨A6, c6, rfl, hc6⟩ := own_form hown3
    have hc := bO3.cell
    go_wp2_with (at_builtin; refine wpList_app HEL rfl _ _ rfl (hown3.alloc _) rfl rfl (sc_two s rfl) rfl (sc_one _) (by unfold maxLen; omega) (by have : (l.length + 1) * by_ ≤ 1000000001 * 64 := Nat.mul_le_mul (by omega) hby; omega) (by simp; omega) ?_; intro v6 w6 hown6 hg6 hor6; have hv6 := (bO3.alloc (.cells #[.int .i64 s.1, .int .i64 s.2] 27)).kept hg6 (bO3.not_row (by decide) hown3); have hc6' := hv6.cell; have hf6 := hv6.frozen; obtain ⟨g6, cap6, rfl⟩ := ownsRow_succ hown6)
    have hkp := boxed_app bO3 (by decide) hOM hown3 hM3 hown6 hg6 hor6
    have hbl : Below O w3 (w6.setCell ⟨O, 0, none⟩ (.slice (some ⟨g6, 0, none⟩) (l.length + 1) cap6)) := (((Below.refl O w3).alloc (by omega) _).grown hg6 (by simp; omega) (fun k e => by have := (hown3.lt k e).1; omega)).setCell (p := ⟨O, 0, none⟩) (Nat.le_refl _) _
    go_end0
    refine ⟨rfl, _, hv6.set _, ?_, hbO3.trans hbl, hkp3.trans hkp⟩
    rw [show full [s] = [s] from HF.out, List.length_append, scells_snoc]
    exact hown6.kept (grownBy_setCell' w6 O _) (.inr (hv6.not_row (by decide) hown6).symm)

set_option maxHeartbeats 4000000 in
set_option maxRecDepth 100000 in
theorem sMinus_any (B : Nat) (A A' : Option Addr) (c c' : Nat) (a b : List S2) (w : World) (ha : Rd w B A (scells a)) (hb : Rd w B A' (scells b)) (hB : B ≤ w.heap.size) (hl : a.length + b.length ≤ 100000000) :
    Calls Try.prog 19 #[.slice A a.length c, .slice A' b.length c'] w (RetSs w (nf fun t => hasB a t && !hasB b t)) := by
  have HA := Lib.hid (of_any B A c a w ha hB (by omega))
  have HB := Lib.hid (fun w' (h : Below w.heap.size w w') => of_any B A' c' b w' (hb.below (h.mono hB)) (by have := h.size; omega) (by omega))
  have hla := ofL_len a
  have hlb := ofL_len b
  have hfin : nf (fun t => hasB a t && !hasB b t) = minusL (ofL a) (ofL b) := by
    rw [minus_nf (ofL_form a) (form_mem (ofL_form b))]
    congr 1; funext t
    rw [ofL_has, ofL_has]
  rw [hfin]
  have hfa := ofL_form a
  have hfb := form_mem (ofL_form b)
  obtain ⟨x, hx⟩ : ∃ x, x = ofL a := ⟨_, rfl⟩
  obtain ⟨y, hy⟩ : ∃ y, y = ofL b := ⟨_, rfl⟩
  rw [← hx] at HA hla hfa ⊢
  rw [← hy] at HB hlb hfb ⊢
  have HML := Lib.hid (fun k => minus_len (b := y.take k) hfa (fun s hs => hfb s (List.mem_of_mem_take hs)))
  have hsum : x.length + y.length ≤ 100000000 := by omega
  clear hx hy ha hb hfin hla hlb hfa hfb
  go_enter Try.func19, Try.ntmps19
  go_wp2_with fail
  refine HA.out.mono ?_; rintro e w1 ⟨A1, c1, rfl, hown1, hb1⟩
  go_wp2_with fail
  refine (HB.out w1 hb1).mono ?_; rintro e w2 ⟨A2, c2, rfl, hown2, hb2⟩
  have hb02 : Below w.heap.size w w2 := hb1.trans (hb2.mono hb1.size)
  have hown12 := own_bel hown1 hb2
  have hs2 := hb02.size
  have hrdy := rd_own hown2
  clear hown1 hown2 hb1 hb2
  go_wp2_with fail
  go_loopw [5, 17] (fun v5 v17 wr => ∃ k : Nat, k ≤ y.length ∧ v17 = .int .i64 k ∧ wr.ownsRow w.heap.size 27 2 v5 (minusL x (y.take k)).length (scells (minusL x (y.take k))) ∧ Below w2.heap.size w2 wr) (fun _ v17 _ => y.length - (intOf v17).toNat)
  case atStart => exact ⟨0, by omega, rfl, hown12, Below.refl _ _⟩
  case round =>
    obtain ⟨k, hk, rfl, hown, hbel⟩ := hrel
    by_cases hlt : k < y.length
    case neg =>
      have hkk : k = y.length := by omega
      have hge : (y.length : Int) ≤ (k : Int) := by omega
      rw [hkk, List.take_length] at hown
      have HO := Lib.hid hown
      have hb9 := hb02.trans (hbel.mono hs2)
      clear hkk hown hbel
      go_wp2_with fail
      go_ret
      exact retSs_of HO.out hb9
    obtain ⟨s, hs⟩ : ∃ v, y[k]? = some v := ⟨_, List.getElem?_eq_getElem hlt⟩
    obtain ⟨gb, go, rfl, hgb, q0, q1⟩ := rd_span hrdy hs
    have r0 := (hbel.cell (p := ⟨gb, go + k * 2, none⟩) (by show gb < _; omega)).trans q0
    have r1 := (hbel.cell (p := ⟨gb, go + k * 2 + 1, none⟩) (by show gb < _; omega)).trans q1
    have hkI : (k : Int) < (y.length : Int) := by omega
    have HNX := Lib.hid (minusL_snoc (a := x) hs)
    have hXl := HML.out k
    rw [List.length_take] at hXl
    obtain ⟨X, hX⟩ : ∃ X, X = minusL x (y.take k) := ⟨_, rfl⟩
    rw [← hX] at hown HNX hXl
    have hXb : X.length ≤ 200000000 := by omega
    have hzr := hbel.size
    clear q0 q1 hs hX hXl
    obtain ⟨A5, c5, rfl, hc5⟩ := own_form hown
    have hrdX := rd_own hown
    go_wp2_with fail
    obtain ⟨wd, hwd⟩ : ∃ wd, wd = ((wr.alloc (.cells #[.int .i64 s.1, .int .i64 s.2] 27)).alloc (.cells #[.slice none 0 0] 22)) := ⟨_, rfl⟩
    have hbD : Below wr.heap.size wr wd := by rw [hwd]; exact ((Below.refl _ wr).alloc (Nat.le_refl _) _).alloc (by simp) _
    obtain ⟨d0, d1⟩ := sc_block wr (.int .i64 s.1) (.int .i64 s.2) 27
    have d0' := cell_al d0 (cell_lt d0) (.cells #[.slice none 0 0] 22)
    have d1' := cell_al d1 (cell_lt d1) (.cells #[.slice none 0 0] 22)
    have bO : Boxed wd (wr.heap.size + 1) 22 (.slice none 0 0) := by
      have := Boxed.new (wr.alloc (.cells #[.int .i64 s.1, .int .i64 s.2] 27)) 22 (.slice none 0 0)
      rw [World.size_alloc] at this
      rw [hwd]; exact this
    have hzd : wd.heap.size = wr.heap.size + 2 := by rw [hwd]; simp
    rw [← hwd] at d0' d1' ⊢
    have hownD := own_bel hown hbD
    have hrdD := (rd_own hown).below hbD
    obtain ⟨Y, hY⟩ : ∃ Y, Y = wr.heap.size := ⟨_, rfl⟩
    have hzY : wd.heap.size = Y + 2 := by omega
    have hb2D : Below w2.heap.size w2 wd := hbel.trans (hbD.mono hzr)
    rw [← hY] at d0' d1' bO hrdD ⊢
    have hY2 : w2.heap.size ≤ Y := by omega
    have HH := Lib.hid hownD
    clear hwd hbD d0 d1 r0 r1 hown hownD hrdX hzd hbel
    clear hY hzr
    go_wp2_with fail
    go_loopw [24] (fun v24 wi => ∃ (j : Nat) (v : Value), j ≤ X.length ∧ v24 = .int .i64 j ∧ Boxed wi (Y + 1) 22 v ∧ wi.ownsRow (Y + 2) 27 2 v (cutL s (X.take j)).length (scells (cutL s (X.take j))) ∧ Below (Y + 1) wd wi) (fun v24 _ => X.length - (intOf v24).toNat)
    case atStart => exact ⟨0, _, by omega, rfl, bO, World.ownsRow_nil _ _ _ _, Below.refl _ _⟩
    case round =>
      obtain ⟨j, v, hj, rfl, bOj, hownj, hbj⟩ := hrel
      have hzj := hbj.size
      by_cases hlj : j < X.length
      case neg =>
        have hjj : j = X.length := by omega
        have hge : (X.length : Int) ≤ (j : Int) := by omega
        rw [hjj, List.take_length, ← HNX.out] at hownj
        obtain ⟨A6, c6, rfl, hc6⟩ := own_form hownj
        have hc := bOj.cell
        have hown9 := own_lower hownj (show w.heap.size ≤ Y + 2 by omega)
        have hb9 : Below w2.heap.size w2 wr := hb2D.trans (hbj.mono (by omega))
        have HO := Lib.hid hown9
        clear hjj hownj hown9
        go_wp2_with fail
        go_roundw
        case rel => exact ⟨k + 1, by omega, by go_num, HO.out, hb9⟩
        case measure => simp [intOf]; omega
      obtain ⟨u, hu⟩ : ∃ v, X[j]? = some v := ⟨_, List.getElem?_eq_getElem hlj⟩
      obtain ⟨gx, ox, rfl, hgx, p0, p1⟩ := rd_span hrdD hu
      have s0 := cell_be p0 hbj (by show gx < _; omega)
      have s1 := cell_be p1 hbj (by show gx < _; omega)
      have y0 := cell_be d0' hbj (by show Y < _; omega)
      have y1 := cell_be d1' hbj (by show Y < _; omega)
      have hljI : (j : Int) < (X.length : Int) := by omega
      have HCT := Lib.hid (cutL_snoc (y := s) hu)
      have hLl := cutL_len s (X.take j)
      rw [List.length_take] at hLl
      obtain ⟨L, hL⟩ : ∃ L, L = cutL s (X.take j) := ⟨_, rfl⟩
      rw [← hL] at hownj HCT hLl
      have hLb : L.length ≤ 400000000 := by omega
      have xa0 := cell_al y0 (cell_lt y0) (.cells #[.int .i64 u.1, .int .i64 u.2] 27)
      have xa1 := cell_al y1 (cell_lt y1) (.cells #[.int .i64 u.1, .int .i64 u.2] 27)
      clear p0 p1 hu hL hLl
      go_wp2_with fail
      obtain ⟨we, hwe⟩ : ∃ we, we = wr.alloc (.cells #[.int .i64 u.1, .int .i64 u.2] 27) := ⟨_, rfl⟩
      have hbE : Below wr.heap.size wr we := by rw [hwe]; exact (Below.refl _ wr).alloc (Nat.le_refl _) _
      obtain ⟨t0, t1⟩ := sc_block wr (.int .i64 u.1) (.int .i64 u.2) 27
      have hzE : we.heap.size = wr.heap.size + 1 := by rw [hwe]; simp
      rw [← hwe] at t0 t1 xa0 xa1 ⊢
      have bOe : Boxed we (Y + 1) 22 v := by rw [hwe]; exact bOj.alloc _
      have hownE := own_bel hownj hbE
      have hbE2 : Below (Y + 1) wd we := hbj.trans (hbE.mono (by omega))
      have hvb : ∀ g, v.ownBlock = some g → g < wr.heap.size := fun g h => (hownj.lt g h).2
      obtain ⟨Z, hZ⟩ : ∃ Z, Z = wr.heap.size := ⟨_, rfl⟩
      rw [← hZ] at t0 t1 hzE hvb hzj ⊢
      have hbk : blkO (Y + 1) we ≠ some Z := by
        unfold blkO; rw [bOe.cell]; intro e
        have := hvb Z e; omega
      have C1 := cut_any (Y + 1) (Y + 2) v L (u.1, min u.2 s.1) we bOe (by omega) (by omega) hownE (by omega)
      have hl1 : (L ++ full [(u.1, min u.2 s.1)]).length ≤ 400000001 := by
        rw [List.length_append]
        have : (full [(u.1, min u.2 s.1)]).length ≤ 1 := by unfold full; exact Nat.le_trans (List.length_filter_le _ _) (by simp)
        omega
      obtain ⟨L1, hL1⟩ : ∃ L1, L1 = L ++ full [(u.1, min u.2 s.1)] := ⟨_, rfl⟩
      rw [← hL1] at C1 HCT hl1
      have HC1 := Lib.hid C1
      clear hwe hbE hZ hL1 C1 hownj bOj hownE bOe s0 s1 y0 y1
      refine HC1.out.mono ?_; rintro e w5 ⟨rfl, v5, bO5, hown5, hb5, hk5⟩
      have hb05 : Below (Y + 1) wd w5 := hbE2.trans hb5
      have x0 := hk5.cell (p := ⟨Z, 0, none⟩) t0 (by show Z ≠ _; omega) hbk
      have x1 := hk5.cell (p := ⟨Z, 1, none⟩) t1 (by show Z ≠ _; omega) hbk
      have y0 := cell_be xa0 hb5 (by show Y < _; omega)
      have y1 := cell_be xa1 hb5 (by show Y < _; omega)
      have hz5 := hb5.size
      have HC2 := Lib.hid (cut_any (Y + 1) (Y + 2) v5 L1 (max u.1 s.2, u.2) w5 bO5 (by omega) (by omega) hown5 (by omega))
      clear hb5 hk5 t0 t1 xa0 xa1 hown5 bO5 hbE2 hbk
      go_wp2_with fail
      refine HC2.out.mono ?_; rintro e w6 ⟨rfl, v6, bO6, hown6, hb6, hk6⟩
      have hb06 : Below (Y + 1) wd w6 := hb05.trans hb6
      rw [← HCT.out] at hown6
      have HO := Lib.hid hown6
      clear hown6 hk6 hb6 x0 x1 y0 y1
      go_wp2_with fail
      go_roundw
      case rel => exact ⟨j + 1, v6, by omega, by go_num, bO6, HO.out, hb06⟩
      case measure => simp [intOf]; omega
end Go.Proofs.Ytiohdacbnigpkaa

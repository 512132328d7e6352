/- The walks of spans.whole (at span.Out and span.In), spans.Out, spans.In (layer 10). For at most 10^9 spans. -/
import Derived.Test.YtiohdacbnigpkaaSet7
import Derived.Test.YtiohdacbnigpkaaSpan2
namespace Go.Proofs.Ytiohdacbnigpkaa
open Go.RowKit Go.Maps
set_option linter.unusedVariables false
set_option linter.unusedSimpArgs false

/-- what is wrong with a width, and with the spans of a list that are not empty -/
def wrgS (n : Int) (l : List S2) : Int := if ¬ (1 ≤ n ∧ n ≤ 1099511627776) then 1 else if ∀ s ∈ full l, wrg n [s.1, s.2] = 0 then 0 else 7
def oS (n : Int) (s : S2) : S2 := (OutF s.1 s.2 n, OutT s.1 s.2 n)
def iS (n : Int) (s : S2) : S2 := (InF s.1 s.2 n, InT s.1 s.2 n)
noncomputable def wholeR (g : S2 → S2) (n : Int) (l : List S2) : List S2 × Int := if wrgS n l = 0 then (ofL ((full l).map g), 0) else ([], wrgS n l)
theorem wrg_two {n a b : Int} (h : 1 ≤ n ∧ n ≤ 1099511627776) : wrg n [a, b] = 0 ∨ wrg n [a, b] = 7 := by
  unfold wrg
  rw [if_neg (fun h' => h' h)]
  split
  · exact .inl rfl
  · exact .inr rfl
theorem full_in {l : List S2} {s : S2} (h : s ∈ l) (he : emptyS s = false) : s ∈ full l := List.mem_filter.2 ⟨h, by rw [full_emptyS, he]; rfl⟩
set_option maxHeartbeats 2000000 in
set_option maxRecDepth 100000 in
theorem wholeO_any (B : Nat) (A : Option Addr) (c : Nat) (l : List S2) (n : Int) (w : World) (hr : Rd w B A (scells l)) (hB : B ≤ w.heap.size) (hl : l.length ≤ 1000000000) :
    Calls Try.prog 36 #[.slice A l.length c, .int .i64 n, .func (.func 37) #[] #[]] w (RetSE w (wholeR (oS n) n l)) := by
  obtain ⟨by_, HEL, hby⟩ := El_span
  have HW := Lib.hid (fun w => width_any n w)
  by_cases hw : 1 ≤ n ∧ n ≤ 1099511627776
  case neg =>
    have hz : wrgS n l = 1 := by unfold wrgS; rw [if_pos hw]
    have HE := Lib.hid (show wholeR (oS n) n l = ([], 1) by unfold wholeR; rw [if_neg (by rw [hz]; decide), hz])
    have hd : decide (1 ≤ n ∧ n ≤ 1099511627776) = false := decide_eq_false hw
    rw [hd] at HW
    clear hw hz hd
    go_enter Try.func36, Try.ntmps36
    go_wp2_with fail
    refine (HW.out _).mono ?_; rintro e w1 ⟨rfl, hq⟩
    subst hq
    go_wp2_with fail
    go_ret2
    exact retSE_err HE.out (Below.refl _ _)
  have hd : decide (1 ≤ n ∧ n ≤ 1099511627776) = true := decide_eq_true hw
  rw [hd] at HW
  have HN := Lib.hid hw
  clear hw hd
  go_enter Try.func36, Try.ntmps36
  go_wp2_with fail
  refine (HW.out _).mono ?_; rintro e w1 ⟨rfl, hq⟩
  subst hq
  go_wp2_with fail
  go_loopw [8, 18] (fun v8 v18 wr => ∃ k : Nat, k ≤ l.length ∧ v18 = .int .i64 k ∧ (∀ s ∈ full (l.take k), wrg n [s.1, s.2] = 0) ∧ wr.ownsRow w.heap.size 27 2 v8 ((full (l.take k)).map (oS n)).length (scells ((full (l.take k)).map (oS n))) ∧ Below w.heap.size w wr) (fun _ v18 _ => l.length - (intOf v18).toNat)
  case atStart => exact ⟨0, by omega, rfl, by simp [full], World.ownsRow_nil _ _ _ _, Below.refl _ _⟩
  case round =>
    obtain ⟨k, hk, rfl, hall, hown, hbel⟩ := hrel
    have HALL := Lib.hid hall
    clear hall
    have hfl := full_le (l.take k)
    rw [List.length_take] at hfl
    have hbs := hbel.size
    obtain ⟨L, hL⟩ : ∃ L, L = (full (l.take k)).map (oS n) := ⟨_, rfl⟩
    have hLl : L.length ≤ 1000000000 := by rw [hL, List.length_map]; omega
    rw [← hL] at hown
    have HL := Lib.hid hL
    clear hL
    obtain ⟨A8, c8, rfl, hc8⟩ := own_form hown
    by_cases hlt : k < l.length
    case neg =>
      have hkk : k = l.length := by omega
      have hge : (l.length : Int) ≤ (k : Int) := by omega
      have hz : wrgS n l = 0 := by
        unfold wrgS
        have h := HALL.out
        rw [hkk, List.take_length] at h
        rw [if_neg (fun h' => h' HN.out), if_pos h]
      have HE := Lib.hid (show wholeR (oS n) n l = (ofL ((full l).map (oS n)), 0) by unfold wholeR; rw [if_pos hz])
      have hX := HL.out
      rw [hkk, List.take_length] at hX
      rw [← hX] at HE
      have HO := Lib.hid (of_any wr.heap.size A8 c8 L wr (rd_own hown) (Nat.le_refl _) hLl)
      clear hkk hown hz hX HALL HL
      go_wp2_with fail
      refine HO.out.mono ?_; rintro e w4 ⟨A4, c4, rfl, hown4, hb4⟩
      have hown5 := own_lower hown4 hbs
      have hb5 := hbel.trans (hb4.mono hbs)
      clear hown4 hb4
      go_wp2_with fail
      go_ret2
      exact retSE_ok HE.out hown5 hb5
    obtain ⟨s, hs⟩ : ∃ v, l[k]? = some v := ⟨_, List.getElem?_eq_getElem hlt⟩
    obtain ⟨gb, go, rfl, hgb, q0, q1⟩ := rd_span hr hs
    have r0 := (hbel.cell (p := ⟨gb, go + k * 2, none⟩) (by show gb < _; omega)).trans q0
    have r1 := (hbel.cell (p := ⟨gb, go + k * 2 + 1, none⟩) (by show gb < _; omega)).trans q1
    have hkI : (k : Int) < (l.length : Int) := by omega
    have hsn := full_snoc hs
    have hm := List.mem_of_getElem? hs
    obtain ⟨eb, heb⟩ : ∃ x, x = emptyS s := ⟨_, rfl⟩
    have HE0 := fun w => emptyS_any s w
    rw [← heb] at HE0 hsn
    have HE := Lib.hid HE0
    have HSN := Lib.hid hsn
    have HEB := Lib.hid heb
    have HM := Lib.hid hm
    clear q0 q1 hs hsn HE0 heb hm
    go_wp2_with fail
    refine (HE.out _).mono ?_; rintro e w4 ⟨rfl, hb4⟩
    obtain ⟨wd, hwd⟩ : ∃ wd, wd = (wr.alloc (.cells #[.int .i64 s.1, .int .i64 s.2] 27)) := ⟨_, rfl⟩
    rw [← hwd] at hb4
    have hownD : wd.ownsRow w.heap.size 27 2 (.slice A8 L.length c8) L.length (scells L) := by rw [hwd]; exact hown.alloc _
    have hbD : Below w.heap.size w wd := by rw [hwd]; exact hbel.alloc hbs _
    have hzD : wr.heap.size < wd.heap.size := by rw [hwd]; simp
    obtain ⟨d0, d1⟩ := sc_block wr (.int .i64 s.1) (.int .i64 s.2) 27
    rw [← hwd] at d0 d1
    have e0 := cell_be d0 hb4 (by show wr.heap.size < _; omega)
    have e1 := cell_be d1 hb4 (by show wr.heap.size < _; omega)
    have hown4 := own_bel hownD hb4
    have hb04 : Below w.heap.size w w4 := hbD.trans (hb4.mono hbD.size)
    have hz4 := hb4.size
    clear hwd hownD hbD d0 d1 hown r0 r1
    cases eb
    case true =>
      have hnx : full (l.take (k + 1)) = full (l.take k) := by rw [HSN.out]; simp
      have HNX := Lib.hid hnx
      clear hnx HSN
      go_wp2_with fail
      go_roundw
      case rel => exact ⟨k + 1, by omega, by go_num, by rw [HNX.out]; exact HALL.out, by rw [HNX.out, ← HL.out]; exact hown4, hb04⟩
      case measure => simp [intOf]; omega
    case false =>
      have hnx : full (l.take (k + 1)) = full (l.take k) ++ [s] := by rw [HSN.out]; simp
      have HNX := Lib.hid hnx
      have O0 := fun w => Out_any s.1 s.2 n w
      have hz07 := wrg_two (a := s.1) (b := s.2) HN.out
      have hmap : scells ((full (l.take k) ++ [s]).map (oS n)) = scells ((full (l.take k)).map (oS n)) ++ sc (oS n s) := by rw [List.map_append, scells_append]; simp [scells]
      have hgx : oS n s = (OutF s.1 s.2 n, OutT s.1 s.2 n) := rfl
      rw [hgx] at hmap
      obtain ⟨x, hx⟩ : ∃ x, x = OutF s.1 s.2 n := ⟨_, rfl⟩
      obtain ⟨y, hy⟩ : ∃ y, y = OutT s.1 s.2 n := ⟨_, rfl⟩
      obtain ⟨z, hz⟩ : ∃ z, z = wrg n [s.1, s.2] := ⟨_, rfl⟩
      rw [← hx, ← hy] at O0 hmap
      rw [← hz] at O0 hz07
      have HO := Lib.hid O0
      have HZ := Lib.hid hz
      have HMP := Lib.hid hmap
      clear O0 hz hnx hmap hgx hx hy HSN
      by_cases h0 : z = 0
      case neg =>
        have hz7 : z = 7 := by omega
        subst hz7
        have hzl : wrgS n l = 7 := by
          unfold wrgS
          rw [if_neg (fun h' => h' HN.out), if_neg]
          intro h
          have := h s (full_in HM.out HEB.out.symm)
          rw [← HZ.out] at this; cases this
        have HR := Lib.hid (show wholeR (oS n) n l = ([], 7) by unfold wholeR; rw [if_neg (by rw [hzl]; decide), hzl])
        clear h0 hzl hz07
        go_wp2_with fail
        refine (HO.out _).mono ?_; rintro e w5 ⟨rfl, hb5⟩
        go_wp2_with fail
        go_ret2
        exact retSE_err HR.out ((hb04.trans (hb5.mono hb04.size)).alloc (by have := hb04.size; have := hb5.size; omega) _)
      subst h0
      clear hz07
      go_wp2_with fail
      refine (HO.out _).mono ?_; rintro e w5 ⟨rfl, hb5⟩
      have hown5 := own_bel hown4 hb5
      have hb05 : Below w.heap.size w w5 := hb04.trans (hb5.mono hb04.size)
      have hz5 := hb05.size
      clear hown4 hb5 e0 e1
      go_wp2_with (at_builtin; refine wpList_app HEL rfl _ _ rfl ((hown5.alloc _).alloc _) rfl rfl (sc_two (x, y) (World.size_alloc _ _).symm) rfl (sc_one _) (by unfold maxLen; omega) (by have : (L.length + 1) * by_ ≤ 1000000001 * 64 := Nat.mul_le_mul (by omega) hby; omega) (by simp; omega) ?_; intro v6 w6 hown6 hg6 _)
      have hb6 : Below w.heap.size w w6 := ((hb05.alloc hz5 _).alloc (by simp; omega) _).trans (own_below ((hown5.alloc _).alloc _) hg6 (by simp; omega))
      go_roundw
      case rel =>
        refine ⟨k + 1, by omega, by go_num, ?_, ?_, hb6⟩
        · rw [HNX.out]
          intro u hu
          rcases List.mem_append.1 hu with h | h
          · exact HALL.out u h
          · simp at h; rw [h]; exact HZ.out.symm
        · rw [HNX.out, HMP.out, List.map_append, List.length_append, ← HL.out]; exact hown6
      case measure => simp [intOf]; omega
set_option maxHeartbeats 2000000 in
set_option maxRecDepth 100000 in
theorem wholeI_any (B : Nat) (A : Option Addr) (c : Nat) (l : List S2) (n : Int) (w : World) (hr : Rd w B A (scells l)) (hB : B ≤ w.heap.size) (hl : l.length ≤ 1000000000) :
    Calls Try.prog 36 #[.slice A l.length c, .int .i64 n, .func (.func 38) #[] #[]] w (RetSE w (wholeR (iS n) n l)) := by
  obtain ⟨by_, HEL, hby⟩ := El_span
  have HW := Lib.hid (fun w => width_any n w)
  by_cases hw : 1 ≤ n ∧ n ≤ 1099511627776
  case neg =>
    have hz : wrgS n l = 1 := by unfold wrgS; rw [if_pos hw]
    have HE := Lib.hid (show wholeR (iS n) n l = ([], 1) by unfold wholeR; rw [if_neg (by rw [hz]; decide), hz])
    have hd : decide (1 ≤ n ∧ n ≤ 1099511627776) = false := decide_eq_false hw
    rw [hd] at HW
    clear hw hz hd
    go_enter Try.func36, Try.ntmps36
    go_wp2_with fail
    refine (HW.out _).mono ?_; rintro e w1 ⟨rfl, hq⟩
    subst hq
    go_wp2_with fail
    go_ret2
    exact retSE_err HE.out (Below.refl _ _)
  have hd : decide (1 ≤ n ∧ n ≤ 1099511627776) = true := decide_eq_true hw
  rw [hd] at HW
  have HN := Lib.hid hw
  clear hw hd
  go_enter Try.func36, Try.ntmps36
  go_wp2_with fail
  refine (HW.out _).mono ?_; rintro e w1 ⟨rfl, hq⟩
  subst hq
  go_wp2_with fail
  go_loopw [8, 18] (fun v8 v18 wr => ∃ k : Nat, k ≤ l.length ∧ v18 = .int .i64 k ∧ (∀ s ∈ full (l.take k), wrg n [s.1, s.2] = 0) ∧ wr.ownsRow w.heap.size 27 2 v8 ((full (l.take k)).map (iS n)).length (scells ((full (l.take k)).map (iS n))) ∧ Below w.heap.size w wr) (fun _ v18 _ => l.length - (intOf v18).toNat)
  case atStart => exact ⟨0, by omega, rfl, by simp [full], World.ownsRow_nil _ _ _ _, Below.refl _ _⟩
  case round =>
    obtain ⟨k, hk, rfl, hall, hown, hbel⟩ := hrel
    have HALL := Lib.hid hall
    clear hall
    have hfl := full_le (l.take k)
    rw [List.length_take] at hfl
    have hbs := hbel.size
    obtain ⟨L, hL⟩ : ∃ L, L = (full (l.take k)).map (iS n) := ⟨_, rfl⟩
    have hLl : L.length ≤ 1000000000 := by rw [hL, List.length_map]; omega
    rw [← hL] at hown
    have HL := Lib.hid hL
    clear hL
    obtain ⟨A8, c8, rfl, hc8⟩ := own_form hown
    by_cases hlt : k < l.length
    case neg =>
      have hkk : k = l.length := by omega
      have hge : (l.length : Int) ≤ (k : Int) := by omega
      have hz : wrgS n l = 0 := by
        unfold wrgS
        have h := HALL.out
        rw [hkk, List.take_length] at h
        rw [if_neg (fun h' => h' HN.out), if_pos h]
      have HE := Lib.hid (show wholeR (iS n) n l = (ofL ((full l).map (iS n)), 0) by unfold wholeR; rw [if_pos hz])
      have hX := HL.out
      rw [hkk, List.take_length] at hX
      rw [← hX] at HE
      have HO := Lib.hid (of_any wr.heap.size A8 c8 L wr (rd_own hown) (Nat.le_refl _) hLl)
      clear hkk hown hz hX HALL HL
      go_wp2_with fail
      refine HO.out.mono ?_; rintro e w4 ⟨A4, c4, rfl, hown4, hb4⟩
      have hown5 := own_lower hown4 hbs
      have hb5 := hbel.trans (hb4.mono hbs)
      clear hown4 hb4
      go_wp2_with fail
      go_ret2
      exact retSE_ok HE.out hown5 hb5
    obtain ⟨s, hs⟩ : ∃ v, l[k]? = some v := ⟨_, List.getElem?_eq_getElem hlt⟩
    obtain ⟨gb, go, rfl, hgb, q0, q1⟩ := rd_span hr hs
    have r0 := (hbel.cell (p := ⟨gb, go + k * 2, none⟩) (by show gb < _; omega)).trans q0
    have r1 := (hbel.cell (p := ⟨gb, go + k * 2 + 1, none⟩) (by show gb < _; omega)).trans q1
    have hkI : (k : Int) < (l.length : Int) := by omega
    have hsn := full_snoc hs
    have hm := List.mem_of_getElem? hs
    obtain ⟨eb, heb⟩ : ∃ x, x = emptyS s := ⟨_, rfl⟩
    have HE0 := fun w => emptyS_any s w
    rw [← heb] at HE0 hsn
    have HE := Lib.hid HE0
    have HSN := Lib.hid hsn
    have HEB := Lib.hid heb
    have HM := Lib.hid hm
    clear q0 q1 hs hsn HE0 heb hm
    go_wp2_with fail
    refine (HE.out _).mono ?_; rintro e w4 ⟨rfl, hb4⟩
    obtain ⟨wd, hwd⟩ : ∃ wd, wd = (wr.alloc (.cells #[.int .i64 s.1, .int .i64 s.2] 27)) := ⟨_, rfl⟩
    rw [← hwd] at hb4
    have hownD : wd.ownsRow w.heap.size 27 2 (.slice A8 L.length c8) L.length (scells L) := by rw [hwd]; exact hown.alloc _
    have hbD : Below w.heap.size w wd := by rw [hwd]; exact hbel.alloc hbs _
    have hzD : wr.heap.size < wd.heap.size := by rw [hwd]; simp
    obtain ⟨d0, d1⟩ := sc_block wr (.int .i64 s.1) (.int .i64 s.2) 27
    rw [← hwd] at d0 d1
    have e0 := cell_be d0 hb4 (by show wr.heap.size < _; omega)
    have e1 := cell_be d1 hb4 (by show wr.heap.size < _; omega)
    have hown4 := own_bel hownD hb4
    have hb04 : Below w.heap.size w w4 := hbD.trans (hb4.mono hbD.size)
    have hz4 := hb4.size
    clear hwd hownD hbD d0 d1 hown r0 r1
    cases eb
    case true =>
      have hnx : full (l.take (k + 1)) = full (l.take k) := by rw [HSN.out]; simp
      have HNX := Lib.hid hnx
      clear hnx HSN
      go_wp2_with fail
      go_roundw
      case rel => exact ⟨k + 1, by omega, by go_num, by rw [HNX.out]; exact HALL.out, by rw [HNX.out, ← HL.out]; exact hown4, hb04⟩
      case measure => simp [intOf]; omega
    case false =>
      have hnx : full (l.take (k + 1)) = full (l.take k) ++ [s] := by rw [HSN.out]; simp
      have HNX := Lib.hid hnx
      have O0 := fun w => In_any s.1 s.2 n w
      have hz07 := wrg_two (a := s.1) (b := s.2) HN.out
      have hmap : scells ((full (l.take k) ++ [s]).map (iS n)) = scells ((full (l.take k)).map (iS n)) ++ sc (iS n s) := by rw [List.map_append, scells_append]; simp [scells]
      have hgx : iS n s = (InF s.1 s.2 n, InT s.1 s.2 n) := rfl
      rw [hgx] at hmap
      obtain ⟨x, hx⟩ : ∃ x, x = InF s.1 s.2 n := ⟨_, rfl⟩
      obtain ⟨y, hy⟩ : ∃ y, y = InT s.1 s.2 n := ⟨_, rfl⟩
      obtain ⟨z, hz⟩ : ∃ z, z = wrg n [s.1, s.2] := ⟨_, rfl⟩
      rw [← hx, ← hy] at O0 hmap
      rw [← hz] at O0 hz07
      have HO := Lib.hid O0
      have HZ := Lib.hid hz
      have HMP := Lib.hid hmap
      clear O0 hz hnx hmap hgx hx hy HSN
      by_cases h0 : z = 0
      case neg =>
        have hz7 : z = 7 := by omega
        subst hz7
        have hzl : wrgS n l = 7 := by
          unfold wrgS
          rw [if_neg (fun h' => h' HN.out), if_neg]
          intro h
          have := h s (full_in HM.out HEB.out.symm)
          rw [← HZ.out] at this; cases this
        have HR := Lib.hid (show wholeR (iS n) n l = ([], 7) by unfold wholeR; rw [if_neg (by rw [hzl]; decide), hzl])
        clear h0 hzl hz07
        go_wp2_with fail
        refine (HO.out _).mono ?_; rintro e w5 ⟨rfl, hb5⟩
        go_wp2_with fail
        go_ret2
        exact retSE_err HR.out ((hb04.trans (hb5.mono hb04.size)).alloc (by have := hb04.size; have := hb5.size; omega) _)
      subst h0
      clear hz07
      go_wp2_with fail
      refine (HO.out _).mono ?_; rintro e w5 ⟨rfl, hb5⟩
      have hown5 := own_bel hown4 hb5
      have hb05 : Below w.heap.size w w5 := hb04.trans (hb5.mono hb04.size)
      have hz5 := hb05.size
      clear hown4 hb5 e0 e1
      go_wp2_with (at_builtin; refine wpList_app HEL rfl _ _ rfl ((hown5.alloc _).alloc _) rfl rfl (sc_two (x, y) (World.size_alloc _ _).symm) rfl (sc_one _) (by unfold maxLen; omega) (by have : (L.length + 1) * by_ ≤ 1000000001 * 64 := Nat.mul_le_mul (by omega) hby; omega) (by simp; omega) ?_; intro v6 w6 hown6 hg6 _)
      have hb6 : Below w.heap.size w w6 := ((hb05.alloc hz5 _).alloc (by simp; omega) _).trans (own_below ((hown5.alloc _).alloc _) hg6 (by simp; omega))
      go_roundw
      case rel =>
        refine ⟨k + 1, by omega, by go_num, ?_, ?_, hb6⟩
        · rw [HNX.out]
          intro u hu
          rcases List.mem_append.1 hu with h | h
          · exact HALL.out u h
          · simp at h; rw [h]; exact HZ.out.symm
        · rw [HNX.out, HMP.out, List.map_append, List.length_append, ← HL.out]; exact hown6
      case measure => simp [intOf]; omega
set_option maxRecDepth 100000 in
theorem sOut_any (B : Nat) (A : Option Addr) (c : Nat) (l : List S2) (n : Int) (w : World) (hr : Rd w B A (scells l)) (hB : B ≤ w.heap.size) (hl : l.length ≤ 1000000000) :
    Calls Try.prog 12 #[.slice A l.length c, .int .i64 n] w (RetSE w (wholeR (oS n) n l)) := by
  have H := Lib.hid (wholeO_any B A c l n w hr hB hl)
  obtain ⟨r, hR⟩ : ∃ r, r = wholeR (oS n) n l := ⟨_, rfl⟩
  rw [← hR] at H ⊢
  clear hR
  go_enter Try.func12, Try.ntmps12
  go_wp2_with fail
  refine H.out.mono ?_; rintro e w1 ⟨A1, c1, rfl, hown1, hb1⟩
  go_wp2_with fail
  go_ret2
  exact ⟨A1, c1, rfl, hown1, hb1⟩
end Go.Proofs.Ytiohdacbnigpkaa

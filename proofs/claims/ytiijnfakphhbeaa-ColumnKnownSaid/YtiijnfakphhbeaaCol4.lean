/- The walks of column.putNumbers, getNumbers, may, and of slices.IndexFunc, ContainsFunc, DeleteFunc, Clone over values (layer 6). For at most 65536 values. -/
import Derived.Test.YtiijnfakphhbeaaCol3
import Derived.Lib.SliceRun
namespace Go.Proofs.Ytiijnfakphhbeaa
open Go.RowKit Go.Maps
set_option linter.unusedVariables false
set_option linter.unusedSimpArgs false

set_option maxHeartbeats 1000000 in
set_option maxRecDepth 100000 in
theorem putNumbers_any (A : Option Addr) (c : Nat) (l : List V) (w : World) (hr : Rd w w.heap.size A (vcells l)) (hl : l.length ≤ 65536) :
    Calls Try.prog 43 #[.slice A l.length c] w (RetB w (In.iput (l.map V.n))) := by
  go_enter Try.func43, Try.ntmps43
  go_wp2
  go_loopw [3, 8] (fun v3 v8 wr => ∃ k : Nat, k ≤ l.length ∧ v8 = .int .i64 k ∧ wr.ownsRow w.heap.size 2 1 v3 k (In.nums ((l.take k).map V.n)) ∧ Below w.heap.size w wr) (fun _ v8 _ => l.length - (intOf v8).toNat)
  case atStart => exact ⟨0, by omega, rfl, World.ownsRow_nil _ _ _ _, Below.refl _ _⟩
  case round =>
    obtain ⟨k, hk, rfl, hown, hbel⟩ := hrel
    by_cases hlt : k < l.length
    case neg =>
      have hkk : k = l.length := by omega
      have hge : (l.length : Int) ≤ (k : Int) := by omega
      rw [hkk, List.take_length] at hown
      obtain ⟨A3, c3, rfl, hc3⟩ := own_form hown
      have hml : (l.map V.n).length = l.length := List.length_map _
      have P0 := In.Put_ints A3 c3 (l.map V.n) (by rw [hml]; exact hl) wr (rd_own hown)
      rw [hml] at P0
      have HP := Lib.hid P0
      clear P0 hkk hown
      go_wp2_with fail
      refine HP.out.mono ?_; rintro e w4 ⟨A4, c4, rfl, hown4, hb4⟩
      have hb04 : Below w.heap.size w w4 := hbel.trans (hb4.mono hbel.size)
      have hown5 := own_lower hown4 hbel.size
      clear hown4
      go_wp2_with fail
      go_ret
      exact retB_of hown5 hb04
    obtain ⟨v, hv⟩ : ∃ v, l[k]? = some v := ⟨_, List.getElem?_eq_getElem hlt⟩
    obtain ⟨gb, go, rfl, hgb, q0, q1, q2⟩ := rd_val hr hv
    have r0 := (hbel.cell (p := ⟨gb, go + k * 3, none⟩) (by show gb < _; omega)).trans q0
    have r1 := (hbel.cell (p := ⟨gb, go + k * 3 + 1, none⟩) (by show gb < _; omega)).trans q1
    have r2 := (hbel.cell (p := ⟨gb, go + k * 3 + 2, none⟩) (by show gb < _; omega)).trans q2
    have hkI : (k : Int) < (l.length : Int) := by omega
    have hnx : In.nums ((l.take (k + 1)).map V.n) = In.nums ((l.take k).map V.n) ++ [.int .i64 v.n] := by rw [List.take_add_one, hv]; simp [In.nums]
    have HNX := Lib.hid hnx
    clear q0 q1 q2 hv hnx
    go_wp2_with (at_builtin; refine wpList_app In.El_i64 rfl _ _ rfl ((hown.alloc _).alloc _) rfl rfl (by exact rd_one _ _ _ _ _ (World.size_alloc _ _).symm (Nat.lt_add_one _)) rfl one_int (by unfold maxLen; omega) (by omega) (by have := hbel.size; simp; omega) ?_; intro v4 w4 hown4 hg4 _)
    have hb4 : Below w.heap.size w w4 := ((hbel.alloc hbel.size _).alloc (by have := hbel.size; simp; omega) _).trans (own_below ((hown.alloc _).alloc _) hg4 (by have := hbel.size; simp; omega))
    go_roundw
    case rel => exact ⟨k + 1, by omega, by go_num, by rw [HNX.out]; exact hown4, hb4⟩
    case measure => simp [intOf]; omega

set_option maxHeartbeats 1000000 in
set_option maxRecDepth 100000 in
theorem getNumbers_any (B : Nat) (A : Option Addr) (c : Nat) (b : List UInt8) (n : Nat) (w : World) (hr : Rd w B A (cells b)) (hc : b.length ≤ c) (hB : B ≤ w.heap.size) (hn : n ≤ 65536) (hb : b.length ≤ 4294967296) :
    Calls Try.prog 44 #[.slice A b.length c, .int .i64 (n : Int)] w (RetVE w (cread 2 b n)) := by
  obtain ⟨by_, HEL, hby⟩ := El_val
  have hcr : cread 2 b n = (if (In.iget b n).2 ≠ 0 then ([], (In.iget b n).2) else ((In.iget b n).1.map fun v => ⟨2, v, []⟩, 0)) := by unfold cread; rw [if_neg (by decide), if_pos (by decide)]
  have G0 := In.Get_ints B A c b (n : Int) w hr hB hc hb (by unfold In.i64; omega)
  have hil : (In.iget b n).1.length ≤ 65536 := by
    by_cases h : (In.iget b n).2 = 0
    · have := In.iput_iget b n h; omega
    · rw [In.iget_err b n h]; simp
  obtain ⟨x, hx⟩ : ∃ x, x = In.iget b n := ⟨_, rfl⟩
  rw [← hx] at G0 hcr hil
  obtain ⟨zs, er⟩ := x
  dsimp only at hcr hil
  have HG := Lib.hid G0
  have HCR := Lib.hid hcr
  clear G0 hcr hx
  go_enter Try.func44, Try.ntmps44
  go_wp2_with fail
  refine HG.out.mono ?_; rintro e w1 ⟨A1, c1, rfl, hown1, hb1⟩
  dsimp only at hown1 ⊢
  by_cases her : er = 0
  case neg =>
    have hE : cread 2 b n = ([], er) := by rw [HCR.out, if_pos her]
    have HE := Lib.hid hE
    have heI : ((er : Int) != 0) = true := by simp; omega
    clear hE her
    go_wp2_with fail
    go_ret2
    exact retVE_err HE.out hb1
  have hE : cread 2 b n = (zs.map (fun v => ⟨2, v, []⟩), 0) := by rw [HCR.out, if_neg (by simpa using her)]
  have HE := Lib.hid hE
  have heI : ((er : Int) != 0) = false := by simp; omega
  have hrz := rd_own hown1
  clear hE her hown1
  go_wp2_with fail
  go_loopw [8, 22] (fun v8 v22 wr => ∃ k : Nat, k ≤ zs.length ∧ v22 = .int .i64 k ∧ wr.ownsRow w1.heap.size 38 3 v8 k (vcells ((zs.take k).map fun v => ⟨2, v, []⟩)) ∧ Below w1.heap.size w1 wr) (fun _ v22 _ => zs.length - (intOf v22).toNat)
  case atStart => exact ⟨0, by omega, rfl, World.ownsRow_nil _ _ _ _, Below.refl _ _⟩
  case round =>
    obtain ⟨k, hk, rfl, hown, hbel⟩ := hrel
    by_cases hlt : k < zs.length
    case neg =>
      have hkk : k = zs.length := by omega
      have hge : (zs.length : Int) ≤ (k : Int) := by omega
      rw [hkk, List.take_length] at hown
      have hown3 := own_lower hown hb1.size
      rw [show zs.length = (zs.map fun v => (⟨2, v, []⟩ : V)).length by simp] at hown3
      clear hkk hown
      go_wp2_with fail
      go_ret2
      exact retVE_ok HE.out hown3 (hb1.trans (hbel.mono hb1.size))
    obtain ⟨z, hz⟩ : ∃ z, zs[k]? = some z := ⟨_, List.getElem?_eq_getElem hlt⟩
    obtain ⟨bb, oo, rfl, hbb, hcell⟩ := hrz.at (k := k) (by simpa using hlt)
    have hck := (hbel.cell (p := ⟨bb, oo + k, none⟩) hbb).trans (hcell k (.int .i64 z) (by rw [List.getElem?_map, hz]; rfl))
    have hkI : (k : Int) < (zs.length : Int) := by omega
    have hnx : vcells ((zs.take (k + 1)).map fun v => (⟨2, v, []⟩ : V)) = vcells ((zs.take k).map fun v => ⟨2, v, []⟩) ++ cv ⟨2, z, []⟩ := by rw [List.take_add_one, hz, List.map_append, vcells_append]; simp [vcells]
    have HNX := Lib.hid hnx
    clear hz hcell hnx
    go_wp2_with (at_builtin; refine wpList_app HEL rfl _ _ rfl (hown.alloc _) rfl rfl (cv_three (⟨2, z, []⟩ : V) rfl) rfl (cv_one _) (by unfold maxLen; omega) (by have : (k + 1) * by_ ≤ 65537 * 64 := Nat.mul_le_mul (by omega) hby; omega) (by have := hbel.size; simp; omega) ?_; intro v4 w4 hown4 hg4 ho4)
    have hb4 : Below w1.heap.size w1 w4 := (hbel.alloc hbel.size _).trans (own_below (hown.alloc _) hg4 (by have := hbel.size; simp; omega))
    go_roundw
    case rel => exact ⟨k + 1, by omega, by go_num, by rw [HNX.out]; exact hown4, hb4⟩
    case measure => simp [intOf]; omega

set_option maxHeartbeats 1000000 in
set_option maxRecDepth 100000 in
theorem cmay_any (t : UInt8) (v : V) (hk : v.k < 256) (hn : i64r v.n) (ht : v.t.length ≤ 1000000) (w : World) :
    Calls Try.prog 26 #[b8 t, va v] w fun e w' => e = .returned (.bool (rmay t v)) ∧ Below w.heap.size w w' := by
  have hv : ∀ (W : World), Rd (W.alloc (.cells #[.int .u8 (v.k : Int), .int .i64 v.n, txt v.t] 38)) (W.heap.size + 1) (some ⟨W.heap.size, 0, none⟩) (vcells [v]) := fun W => by
    have h := cv_three (T := 38) (w := W) v rfl
    simpa [vcells] using h
  have hle := kone_le3 v
  have K0 := fun (o : Obj) => Append_any ((w.alloc o).heap.size + 1) none (some ⟨(w.alloc o).heap.size, 0, none⟩) 0 1 [] [v] ((w.alloc o).alloc (.cells #[.int .u8 (v.k : Int), .int .i64 v.n, txt v.t] 38)) (.inl rfl) (hv (w.alloc o)) (by simp) (by simp; omega) (by simp) (by
    intro u hu; simp at hu; subst hu; exact ⟨hk, hn⟩)
  simp only [World.size_alloc, List.length_nil, List.length_cons, Nat.zero_add] at K0
  obtain ⟨r, hr⟩ : ∃ r, r = kapp [] [v] := ⟨_, rfl⟩
  rw [← hr] at K0
  have HK := Lib.hid K0
  have her : r.2 = if mayB v then 0 else 1 := by
    rw [hr]; unfold kapp
    by_cases hm : mayB v = true
    · simp [hm]
    · simp [hm]
  obtain ⟨r1, r2⟩ := r
  dsimp only at her
  have HR := Lib.hid her
  clear hv K0 hr her hle
  obtain ⟨bl, hbl⟩ : ∃ b, b = rmay t v := ⟨_, rfl⟩
  have HBL := Lib.hid hbl
  rw [← hbl]
  clear hbl
  have ht256 := t.toNat_lt
  obtain ⟨k, n, tx⟩ := v
  dsimp only at hk hn ht HK HR HBL ⊢
  have hbl := HBL.out
  unfold rmay at hbl
  dsimp only at hbl
  cases hm : mayB ⟨k, n, tx⟩
  · have hr2 := HR.out
    rw [hm] at hr2
    simp at hr2
    subst hr2
    rw [hm] at hbl
    simp at hbl
    subst hbl
    clear hm HBL HR
    go_enter Try.func26, Try.ntmps26
    go_wp2_with fail
    refine (HK.out _).mono ?_; rintro e w2 ⟨A2, c2, rfl, hown2, hb2⟩
    have hb : Below w.heap.size w w2 := (((Below.refl _ w).alloc (Nat.le_refl _) _).alloc (by simp) _).trans (hb2.mono (by simp; omega))
    clear hown2
    go_wp2_with fail
    go_ret
    exact ⟨rfl, hb⟩
  · have hr2 := HR.out
    rw [hm] at hr2
    simp at hr2
    subst hr2
    rw [hm] at hbl
    simp only [Bool.true_and] at hbl
    clear hm HBL HR
    by_cases h0 : k = 0
    · have he : bl = true := by rw [hbl]; simp [h0]
      subst he
      clear hbl
      subst h0
      go_enter Try.func26, Try.ntmps26
      go_wp2_with fail
      refine (HK.out _).mono ?_; rintro e w2 ⟨A2, c2, rfl, hown2, hb2⟩
      have hb : Below w.heap.size w w2 := (((Below.refl _ w).alloc (Nat.le_refl _) _).alloc (by simp) _).trans (hb2.mono (by simp; omega))
      have d0 : w2.cell? ⟨w.heap.size, 0, none⟩ = some (.int .u8 ((0 : Nat) : Int)) := cell_be (by simp [go_sem]) hb2 (by simp; omega)
      clear hown2
      go_wp2_with fail
      go_ret
      exact ⟨rfl, hb⟩
    · have e0 : ((k : Int) == 0) = false := by simp; omega
      have hq : ((k : Int) == (t.toNat : Int)) = bl := by
        rw [hbl]
        simp only [h0, decide_false, Bool.false_or]
        by_cases hkt : k = t.toNat
        · simp [hkt]
        · rw [decide_eq_false hkt]; simp; omega
      have HQ := Lib.hid hq
      clear hbl h0 hq
      go_enter Try.func26, Try.ntmps26
      go_wp2_with fail
      refine (HK.out _).mono ?_; rintro e w2 ⟨A2, c2, rfl, hown2, hb2⟩
      have hb : Below w.heap.size w w2 := (((Below.refl _ w).alloc (Nat.le_refl _) _).alloc (by simp) _).trans (hb2.mono (by simp; omega))
      have d0 : w2.cell? ⟨w.heap.size, 0, none⟩ = some (.int .u8 (k : Int)) := cell_be (by simp [go_sem]) hb2 (by simp; omega)
      clear hown2
      go_wp2_with fail
      go_ret
      exact ⟨by rw [← HQ.out]; rfl, hb⟩

/-! ### searches -/
/-- the first place at which p holds; -1 if none -/
def fidx (p : V → Bool) (l : List V) : Int := if l.any p then (l.findIdx p : Int) else -1
theorem fidx_no {p : V → Bool} {l : List V} (h : ∀ v ∈ l, p v = false) : fidx p l = -1 := by
  unfold fidx
  rw [if_neg]
  rw [Bool.not_eq_true, List.any_eq_false]
  exact fun v hv => by simp [h v hv]
theorem fidx_yes {p : V → Bool} {l : List V} {k : Nat} {v : V} (hv : l[k]? = some v) (hp : p v = true) (h : ∀ v ∈ l.take k, p v = false) : fidx p l = (k : Int) := by
  have hk : k < l.length := (List.getElem?_eq_some_iff.1 hv).1
  have hvk : l[k] = v := (List.getElem?_eq_some_iff.1 hv).2
  unfold fidx
  rw [if_pos (List.any_eq_true.2 ⟨v, List.mem_of_getElem? hv, hp⟩)]
  have : l.findIdx p = k := by
    refine (List.findIdx_eq hk).2 ⟨by rw [hvk]; exact hp, fun j hj => ?_⟩
    exact h _ (List.mem_take_iff_getElem.2 ⟨j, by omega, rfl⟩)
  rw [this]

set_option maxHeartbeats 1000000 in
set_option maxRecDepth 100000 in
theorem index1_any (B : Nat) (A : Option Addr) (c : Nat) (l : List V) (f : FuncId) (q : Value) (p : V → Bool) (w : World) (hr : Rd w B A (vcells l)) (hB : B ≤ w.heap.size) (hl : l.length ≤ 65536) (hent : ∀ args w, (callFunc f args).run Try.prog w = .ok (.enter f args) w)
    (hp : ∀ w', Below w.heap.size w w' → ∀ v ∈ l, Calls Try.prog f #[va v, q] w' fun e w'' => e = .returned (.bool (p v)) ∧ Below w'.heap.size w' w'') :
    Calls Try.prog 47 #[.slice A l.length c, .func (.func f) #[] #[q]] w fun e w' => e = .returned (.int .i64 (fidx p l)) ∧ Below w.heap.size w w' := by
  have HP := Lib.hid hp
  have HENT := Lib.hid hent
  clear hp hent
  go_enter Try.func47, Try.ntmps47
  go_wp2
  go_loopw [8] (fun v8 wr => ∃ k : Nat, k ≤ l.length ∧ v8 = .int .i64 k ∧ (∀ v ∈ l.take k, p v = false) ∧ Below w.heap.size w wr) (fun v8 _ => l.length - (intOf v8).toNat)
  case atStart => exact ⟨0, by omega, rfl, by simp, Below.refl _ _⟩
  case round =>
    obtain ⟨k, hk, rfl, hall, hbel⟩ := hrel
    have HALL := Lib.hid hall
    clear hall
    by_cases hlt : k < l.length
    case neg =>
      have hkk : k = l.length := by omega
      have he : fidx p l = -1 := by
        have h1 := HALL.out
        rw [hkk, List.take_length] at h1
        exact fidx_no h1
      have HE := Lib.hid he
      have hge : (l.length : Int) ≤ (k : Int) := by omega
      clear he hkk
      go_wp2_with fail
      go_ret
      exact ⟨by rw [HE.out]; rfl, hbel⟩
    obtain ⟨v, hv⟩ : ∃ v, l[k]? = some v := ⟨_, List.getElem?_eq_getElem hlt⟩
    obtain ⟨gb, go, rfl, hgb, q0, q1, q2⟩ := rd_val hr hv
    have r0 := (hbel.cell (p := ⟨gb, go + k * 3, none⟩) (by show gb < _; omega)).trans q0
    have r1 := (hbel.cell (p := ⟨gb, go + k * 3 + 1, none⟩) (by show gb < _; omega)).trans q1
    have r2 := (hbel.cell (p := ⟨gb, go + k * 3 + 2, none⟩) (by show gb < _; omega)).trans q2
    have hkI : (k : Int) < (l.length : Int) := by omega
    have HV := Lib.hid hv
    have C0 := HP.out wr hbel v (List.mem_of_getElem? hv)
    have hent := HENT.out
    obtain ⟨pv, hpv⟩ : ∃ x, x = p v := ⟨_, rfl⟩
    rw [← hpv] at C0
    have HC := Lib.hid C0
    have HPV := Lib.hid hpv
    clear q0 q1 q2 hv C0 hpv
    go_wp2_with fail
    refine HC.out.mono ?_; rintro e w4 ⟨rfl, hb4⟩
    have hb04 : Below w.heap.size w w4 := hbel.trans (hb4.mono hbel.size)
    cases pv
    · go_wp2_with fail
      go_roundw
      case rel =>
        refine ⟨k + 1, by omega, by go_num, fun x hx => ?_, hb04⟩
        rw [List.take_add_one, HV.out] at hx
        rcases List.mem_append.1 hx with h | h
        · exact HALL.out x h
        · simp at h; subst h; exact HPV.out.symm
      case measure => simp [intOf]; omega
    · have he : fidx p l = (k : Int) := fidx_yes HV.out HPV.out.symm HALL.out
      have HE := Lib.hid he
      clear he
      go_wp2_with fail
      go_ret
      exact ⟨by rw [HE.out]; rfl, hb04⟩

set_option maxHeartbeats 1000000 in
set_option maxRecDepth 100000 in
theorem index0_any (B : Nat) (A : Option Addr) (c : Nat) (l : List V) (f : FuncId) (p : V → Bool) (w : World) (hr : Rd w B A (vcells l)) (hB : B ≤ w.heap.size) (hl : l.length ≤ 65536) (hent : ∀ args w, (callFunc f args).run Try.prog w = .ok (.enter f args) w)
    (hp : ∀ w', Below w.heap.size w w' → ∀ v ∈ l, Calls Try.prog f #[va v] w' fun e w'' => e = .returned (.bool (p v)) ∧ Below w'.heap.size w' w'') :
    Calls Try.prog 47 #[.slice A l.length c, .func (.func f) #[] #[]] w fun e w' => e = .returned (.int .i64 (fidx p l)) ∧ Below w.heap.size w w' := by
  have HP := Lib.hid hp
  have HENT := Lib.hid hent
  clear hp hent
  go_enter Try.func47, Try.ntmps47
  go_wp2
  go_loopw [8] (fun v8 wr => ∃ k : Nat, k ≤ l.length ∧ v8 = .int .i64 k ∧ (∀ v ∈ l.take k, p v = false) ∧ Below w.heap.size w wr) (fun v8 _ => l.length - (intOf v8).toNat)
  case atStart => exact ⟨0, by omega, rfl, by simp, Below.refl _ _⟩
  case round =>
    obtain ⟨k, hk, rfl, hall, hbel⟩ := hrel
    have HALL := Lib.hid hall
    clear hall
    by_cases hlt : k < l.length
    case neg =>
      have hkk : k = l.length := by omega
      have he : fidx p l = -1 := by
        have h1 := HALL.out
        rw [hkk, List.take_length] at h1
        exact fidx_no h1
      have HE := Lib.hid he
      have hge : (l.length : Int) ≤ (k : Int) := by omega
      clear he hkk
      go_wp2_with fail
      go_ret
      exact ⟨by rw [HE.out]; rfl, hbel⟩
    obtain ⟨v, hv⟩ : ∃ v, l[k]? = some v := ⟨_, List.getElem?_eq_getElem hlt⟩
    obtain ⟨gb, go, rfl, hgb, q0, q1, q2⟩ := rd_val hr hv
    have r0 := (hbel.cell (p := ⟨gb, go + k * 3, none⟩) (by show gb < _; omega)).trans q0
    have r1 := (hbel.cell (p := ⟨gb, go + k * 3 + 1, none⟩) (by show gb < _; omega)).trans q1
    have r2 := (hbel.cell (p := ⟨gb, go + k * 3 + 2, none⟩) (by show gb < _; omega)).trans q2
    have hkI : (k : Int) < (l.length : Int) := by omega
    have HV := Lib.hid hv
    have C0 := HP.out wr hbel v (List.mem_of_getElem? hv)
    have hent := HENT.out
    obtain ⟨pv, hpv⟩ : ∃ x, x = p v := ⟨_, rfl⟩
    rw [← hpv] at C0
    have HC := Lib.hid C0
    have HPV := Lib.hid hpv
    clear q0 q1 q2 hv C0 hpv
    go_wp2_with fail
    refine HC.out.mono ?_; rintro e w4 ⟨rfl, hb4⟩
    have hb04 : Below w.heap.size w w4 := hbel.trans (hb4.mono hbel.size)
    cases pv
    · go_wp2_with fail
      go_roundw
      case rel =>
        refine ⟨k + 1, by omega, by go_num, fun x hx => ?_, hb04⟩
        rw [List.take_add_one, HV.out] at hx
        rcases List.mem_append.1 hx with h | h
        · exact HALL.out x h
        · simp at h; subst h; exact HPV.out.symm
      case measure => simp [intOf]; omega
    · have he : fidx p l = (k : Int) := fidx_yes HV.out HPV.out.symm HALL.out
      have HE := Lib.hid he
      clear he
      go_wp2_with fail
      go_ret
      exact ⟨by rw [HE.out]; rfl, hb04⟩

end Go.Proofs.Ytiijnfakphhbeaa

/- Joined texts: see the remark ahead of each part. No condition but those that the parts name. -/
import Derived.Test.YthkpgjcnnfdibaaCoA
import Derived.Lib.SliceRun
/-! The walks of column.putNumbers, getNumbers, may, and of slices.IndexFunc, ContainsFunc, DeleteFunc, Clone over values (layer 6). For at most 65536 values. -/
namespace Go.Proofs.Ythkpgjcnnfdibaa
open Go.RowKit Go.Maps
set_option linter.unusedVariables false
set_option linter.unusedSimpArgs false

set_option maxHeartbeats 1000000 in
set_option maxRecDepth 100000 in
theorem putNumbers_any (A : Option Addr) (c : Nat) (l : List V) (w : World) (hr : Rd w w.heap.size A (vcells l)) (hl : l.length ≤ 65536) :
    Calls Try.prog 86 #[.slice A l.length c] w (RetB w (In.iput (l.map V.n))) := by
  go_enter Try.func86, Try.ntmps86
  go_wp2
  go_loopw [3, 8] (fun v3 v8 wr => ∃ k : Nat, k ≤ l.length ∧ v8 = .int .i64 k ∧ wr.ownsRow w.heap.size 2 1 v3 k (In.nums ((l.take k).map V.n)) ∧ Below w.heap.size w wr) (fun _ v8 _ => l.length - (intOf v8).toNat)
  case atStart => exact ⟨0, by omega, rfl, World.ownsRow_nil _ _ _ _, Below.refl _ _⟩
  case round =>
    obtain ⟨k, hk, rfl, hown, hbel⟩ := hrel
    by_cases hlt : k < l.length
    case neg =>
      have hkk : k = l.length := by omega
      have hge : (l.length : Int) ≤ (k : Int) := by omega
      rw [hkk, List.take_length] at hown
      obtain ⟨A3, c3, rfl, hc3⟩ := own_form hown
      have hml : (l.map V.n).length = l.length := List.length_map _
      have P0 := In.Put_ints A3 c3 (l.map V.n) (by rw [hml]; exact hl) wr (rd_own hown)
      rw [hml] at P0
      have HP := Lib.hid P0
      clear P0 hkk hown
      go_wp2_with fail
      refine HP.out.mono ?_; rintro e w4 ⟨A4, c4, rfl, hown4, hb4⟩
      have hb04 : Below w.heap.size w w4 := hbel.trans (hb4.mono hbel.size)
      have hown5 := own_lower hown4 hbel.size
      clear hown4
      go_wp2_with fail
      go_ret
      exact retB_of hown5 hb04
    obtain ⟨v, hv⟩ : ∃ v, l[k]? = some v := ⟨_, List.getElem?_eq_getElem hlt⟩
    obtain ⟨gb, go, rfl, hgb, q0, q1, q2⟩ := rd_val hr hv
    have r0 := (hbel.cell (p := ⟨gb, go + k * 3, none⟩) (by show gb < _; omega)).trans q0
    have r1 := (hbel.cell (p := ⟨gb, go + k * 3 + 1, none⟩) (by show gb < _; omega)).trans q1
    have r2 := (hbel.cell (p := ⟨gb, go + k * 3 + 2, none⟩) (by show gb < _; omega)).trans q2
    have hkI : (k : Int) < (l.length : Int) := by omega
    have hnx : In.nums ((l.take (k + 1)).map V.n) = In.nums ((l.take k).map V.n) ++ [.int .i64 v.n] := by rw [List.take_add_one, hv]; simp [In.nums]
    have HNX := Lib.hid hnx
    clear q0 q1 q2 hv hnx
    go_wp2_with (at_builtin; refine wpList_app In.El_i64 rfl _ _ rfl ((hown.alloc _).alloc _) rfl rfl (by exact rd_one _ _ _ _ _ (World.size_alloc _ _).symm (Nat.lt_add_one _)) rfl one_int (by unfold maxLen; omega) (by omega) (by have := hbel.size; simp; omega) ?_; intro v4 w4 hown4 hg4 _)
    have hb4 : Below w.heap.size w w4 := ((hbel.alloc hbel.size _).alloc (by have := hbel.size; simp; omega) _).trans (own_below ((hown.alloc _).alloc _) hg4 (by have := hbel.size; simp; omega))
    go_roundw
    case rel => exact ⟨k + 1, by omega, by go_num, by rw [HNX.out]; exact hown4, hb4⟩
    case measure => simp [intOf]; omega

set_option maxHeartbeats 1000000 in
set_option maxRecDepth 100000 in
theorem getNumbers_any (B : Nat) (A : Option Addr) (c : Nat) (b : List UInt8) (n : Nat) (w : World) (hr : Rd w B A (cells b)) (hc : b.length ≤ c) (hB : B ≤ w.heap.size) (hn : n ≤ 65536) (hb : b.length ≤ 4294967296) :
    Calls Try.prog 87 #[.slice A b.length c, .int .i64 (n : Int)] w (RetVE w (cread 2 b n)) := by
  obtain ⟨by_, HEL, hby⟩ := El_val
  have hcr : cread 2 b n = (if (In.iget b n).2 ≠ 0 then ([], (In.iget b n).2) else ((In.iget b n).1.map fun v => ⟨2, v, []⟩, 0)) := by unfold cread; rw [if_neg (by decide), if_pos (by decide)]
  have G0 := In.Get_ints B A c b (n : Int) w hr hB hc hb (by unfold In.i64; omega)
  have hil : (In.iget b n).1.length ≤ 65536 := by
    by_cases h : (In.iget b n).2 = 0
    · have := In.iput_iget b n h; omega
    · rw [In.iget_err b n h]; simp
  obtain ⟨x, hx⟩ : ∃ x, x = In.iget b n := ⟨_, rfl⟩
  rw [← hx] at G0 hcr hil
  obtain ⟨zs, er⟩ := x
  dsimp only at hcr hil
  have HG := Lib.hid G0
  have HCR := Lib.hid hcr
  clear G0 hcr hx
  go_enter Try.func87, Try.ntmps87
  go_wp2_with fail
  refine HG.out.mono ?_; rintro e w1 ⟨A1, c1, rfl, hown1, hb1⟩
  dsimp only at hown1 ⊢
  by_cases her : er = 0
  case neg =>
    have hE : cread 2 b n = ([], er) := by rw [HCR.out, if_pos her]
    have HE := Lib.hid hE
    have heI : ((er : Int) != 0) = true := by simp; omega
    clear hE her
    go_wp2_with fail
    go_ret2
    exact retVE_err HE.out hb1
  have hE : cread 2 b n = (zs.map (fun v => ⟨2, v, []⟩), 0) := by rw [HCR.out, if_neg (by simpa using her)]
  have HE := Lib.hid hE
  have heI : ((er : Int) != 0) = false := by simp; omega
  have hrz := rd_own hown1
  clear hE her hown1
  go_wp2_with fail
  go_loopw [8, 22] (fun v8 v22 wr => ∃ k : Nat, k ≤ zs.length ∧ v22 = .int .i64 k ∧ wr.ownsRow w1.heap.size 46 3 v8 k (vcells ((zs.take k).map fun v => ⟨2, v, []⟩)) ∧ Below w1.heap.size w1 wr) (fun _ v22 _ => zs.length - (intOf v22).toNat)
  case atStart => exact ⟨0, by omega, rfl, World.ownsRow_nil _ _ _ _, Below.refl _ _⟩
  case round =>
    obtain ⟨k, hk, rfl, hown, hbel⟩ := hrel
    by_cases hlt : k < zs.length
    case neg =>
      have hkk : k = zs.length := by omega
      have hge : (zs.length : Int) ≤ (k : Int) := by omega
      rw [hkk, List.take_length] at hown
      have hown3 := own_lower hown hb1.size
      rw [show zs.length = (zs.map fun v => (⟨2, v, []⟩ : V)).length by simp] at hown3
      clear hkk hown
      go_wp2_with fail
      go_ret2
      exact retVE_ok HE.out hown3 (hb1.trans (hbel.mono hb1.size))
    obtain ⟨z, hz⟩ : ∃ z, zs[k]? = some z := ⟨_, List.getElem?_eq_getElem hlt⟩
    obtain ⟨bb, oo, rfl, hbb, hcell⟩ := hrz.at (k := k) (by simpa using hlt)
    have hck := (hbel.cell (p := ⟨bb, oo + k, none⟩) hbb).trans (hcell k (.int .i64 z) (by rw [List.getElem?_map, hz]; rfl))
    have hkI : (k : Int) < (zs.length : Int) := by omega
    have hnx : vcells ((zs.take (k + 1)).map fun v => (⟨2, v, []⟩ : V)) = vcells ((zs.take k).map fun v => ⟨2, v, []⟩) ++ cv ⟨2, z, []⟩ := by rw [List.take_add_one, hz, List.map_append, vcells_append]; simp [vcells]
    have HNX := Lib.hid hnx
    clear hz hcell hnx
    go_wp2_with (at_builtin; refine wpList_app HEL rfl _ _ rfl (hown.alloc _) rfl rfl (cv_three (⟨2, z, []⟩ : V) rfl) rfl (cv_one _) (by unfold maxLen; omega) (by have : (k + 1) * by_ ≤ 65537 * 64 := Nat.mul_le_mul (by omega) hby; omega) (by have := hbel.size; simp; omega) ?_; intro v4 w4 hown4 hg4 ho4)
    have hb4 : Below w1.heap.size w1 w4 := (hbel.alloc hbel.size _).trans (own_below (hown.alloc _) hg4 (by have := hbel.size; simp; omega))
    go_roundw
    case rel => exact ⟨k + 1, by omega, by go_num, by rw [HNX.out]; exact hown4, hb4⟩
    case measure => simp [intOf]; omega

set_option maxHeartbeats 1000000 in
set_option maxRecDepth 100000 in
theorem cmay_any (t : UInt8) (v : V) (hk : v.k < 256) (hn : i64r v.n) (ht : v.t.length ≤ 1000000) (w : World) :
    Calls Try.prog 50 #[b8 t, va v] w fun e w' => e = .returned (.bool (rmay t v)) ∧ Below w.heap.size w w' := by
  have hv : ∀ (W : World), Rd (W.alloc (.cells #[.int .u8 (v.k : Int), .int .i64 v.n, txt v.t] 46)) (W.heap.size + 1) (some ⟨W.heap.size, 0, none⟩) (vcells [v]) := fun W => by
    have h := cv_three (T := 46) (w := W) v rfl
    simpa [vcells] using h
  have hle := kone_le3 v
  have K0 := fun (o : Obj) => Append_any ((w.alloc o).heap.size + 1) none (some ⟨(w.alloc o).heap.size, 0, none⟩) 0 1 [] [v] ((w.alloc o).alloc (.cells #[.int .u8 (v.k : Int), .int .i64 v.n, txt v.t] 46)) (.inl rfl) (hv (w.alloc o)) (by simp) (by simp; omega) (by simp) (by
    intro u hu; simp at hu; subst hu; exact ⟨hk, hn⟩)
  simp only [World.size_alloc, List.length_nil, List.length_cons, Nat.zero_add] at K0
  obtain ⟨r, hr⟩ : ∃ r, r = kapp [] [v] := ⟨_, rfl⟩
  rw [← hr] at K0
  have HK := Lib.hid K0
  have her : r.2 = if mayB v then 0 else 1 := by
    rw [hr]; unfold kapp
    by_cases hm : mayB v = true
    · simp [hm]
    · simp [hm]
  obtain ⟨r1, r2⟩ := r
  dsimp only at her
  have HR := Lib.hid her
  clear hv K0 hr her hle
  obtain ⟨bl, hbl⟩ : ∃ b, b = rmay t v := ⟨_, rfl⟩
  have HBL := Lib.hid hbl
  rw [← hbl]
  clear hbl
  have ht256 := t.toNat_lt
  obtain ⟨k, n, tx⟩ := v
  dsimp only at hk hn ht HK HR HBL ⊢
  have hbl := HBL.out
  unfold rmay at hbl
  dsimp only at hbl
  cases hm : mayB ⟨k, n, tx⟩
  · have hr2 := HR.out
    rw [hm] at hr2
    simp at hr2
    subst hr2
    rw [hm] at hbl
    simp at hbl
    subst hbl
    clear hm HBL HR
    go_enter Try.func50, Try.ntmps50
    go_wp2_with fail
    refine (HK.out _).mono ?_; rintro e w2 ⟨A2, c2, rfl, hown2, hb2⟩
    have hb : Below w.heap.size w w2 := (((Below.refl _ w).alloc (Nat.le_refl _) _).alloc (by simp) _).trans (hb2.mono (by simp; omega))
    clear hown2
    go_wp2_with fail
    go_ret
    exact ⟨rfl, hb⟩
  · have hr2 := HR.out
    rw [hm] at hr2
    simp at hr2
    subst hr2
    rw [hm] at hbl
    simp only [Bool.true_and] at hbl
    clear hm HBL HR
    by_cases h0 : k = 0
    · have he : bl = true := by rw [hbl]; simp [h0]
      subst he
      clear hbl
      subst h0
      go_enter Try.func50, Try.ntmps50
      go_wp2_with fail
      refine (HK.out _).mono ?_; rintro e w2 ⟨A2, c2, rfl, hown2, hb2⟩
      have hb : Below w.heap.size w w2 := (((Below.refl _ w).alloc (Nat.le_refl _) _).alloc (by simp) _).trans (hb2.mono (by simp; omega))
      have d0 : w2.cell? ⟨w.heap.size, 0, none⟩ = some (.int .u8 ((0 : Nat) : Int)) := cell_be (by simp [go_sem]) hb2 (by simp; omega)
      clear hown2
      go_wp2_with fail
      go_ret
      exact ⟨rfl, hb⟩
    · have e0 : ((k : Int) == 0) = false := by simp; omega
      have hq : ((k : Int) == (t.toNat : Int)) = bl := by
        rw [hbl]
        simp only [h0, decide_false, Bool.false_or]
        by_cases hkt : k = t.toNat
        · simp [hkt]
        · rw [decide_eq_false hkt]; simp; omega
      have HQ := Lib.hid hq
      clear hbl h0 hq
      go_enter Try.func50, Try.ntmps50
      go_wp2_with fail
      refine (HK.out _).mono ?_; rintro e w2 ⟨A2, c2, rfl, hown2, hb2⟩
      have hb : Below w.heap.size w w2 := (((Below.refl _ w).alloc (Nat.le_refl _) _).alloc (by simp) _).trans (hb2.mono (by simp; omega))
      have d0 : w2.cell? ⟨w.heap.size, 0, none⟩ = some (.int .u8 (k : Int)) := cell_be (by simp [go_sem]) hb2 (by simp; omega)
      clear hown2
      go_wp2_with fail
      go_ret
      exact ⟨by rw [← HQ.out]; rfl, hb⟩

/-! ### searches -/
/-- the first place at which p holds; -1 if none -/
def fidx (p : V → Bool) (l : List V) : Int := if l.any p then (l.findIdx p : Int) else -1
theorem fidx_no {p : V → Bool} {l : List V} (h : ∀ v ∈ l, p v = false) : fidx p l = -1 := by
  unfold fidx
  rw [if_neg]
  rw [Bool.not_eq_true, List.any_eq_false]
  exact fun v hv => by simp [h v hv]
theorem fidx_yes {p : V → Bool} {l : List V} {k : Nat} {v : V} (hv : l[k]? = some v) (hp : p v = true) (h : ∀ v ∈ l.take k, p v = false) : fidx p l = (k : Int) := by
  have hk : k < l.length := (List.getElem?_eq_some_iff.1 hv).1
  have hvk : l[k] = v := (List.getElem?_eq_some_iff.1 hv).2
  unfold fidx
  rw [if_pos (List.any_eq_true.2 ⟨v, List.mem_of_getElem? hv, hp⟩)]
  have : l.findIdx p = k := by
    refine (List.findIdx_eq hk).2 ⟨by rw [hvk]; exact hp, fun j hj => ?_⟩
    exact h _ (List.mem_take_iff_getElem.2 ⟨j, by omega, rfl⟩)
  rw [this]

set_option maxHeartbeats 1000000 in
set_option maxRecDepth 100000 in
theorem index1_any (B : Nat) (A : Option Addr) (c : Nat) (l : List V) (f : FuncId) (q : Value) (p : V → Bool) (w : World) (hr : Rd w B A (vcells l)) (hB : B ≤ w.heap.size) (hl : l.length ≤ 65536) (hent : ∀ args w, (callFunc f args).run Try.prog w = .ok (.enter f args) w)
    (hp : ∀ w', Below w.heap.size w w' → ∀ v ∈ l, Calls Try.prog f #[va v, q] w' fun e w'' => e = .returned (.bool (p v)) ∧ Below w'.heap.size w' w'') :
    Calls Try.prog 90 #[.slice A l.length c, .func (.func f) #[] #[q]] w fun e w' => e = .returned (.int .i64 (fidx p l)) ∧ Below w.heap.size w w' := by
  have HP := Lib.hid hp
  have HENT := Lib.hid hent
  clear hp hent
  go_enter Try.func90, Try.ntmps90
  go_wp2
  go_loopw [8] (fun v8 wr => ∃ k : Nat, k ≤ l.length ∧ v8 = .int .i64 k ∧ (∀ v ∈ l.take k, p v = false) ∧ Below w.heap.size w wr) (fun v8 _ => l.length - (intOf v8).toNat)
  case atStart => exact ⟨0, by omega, rfl, by simp, Below.refl _ _⟩
  case round =>
    obtain ⟨k, hk, rfl, hall, hbel⟩ := hrel
    have HALL := Lib.hid hall
    clear hall
    by_cases hlt : k < l.length
    case neg =>
      have hkk : k = l.length := by omega
      have he : fidx p l = -1 := by
        have h1 := HALL.out
        rw [hkk, List.take_length] at h1
        exact fidx_no h1
      have HE := Lib.hid he
      have hge : (l.length : Int) ≤ (k : Int) := by omega
      clear he hkk
      go_wp2_with fail
      go_ret
      exact ⟨by rw [HE.out]; rfl, hbel⟩
    obtain ⟨v, hv⟩ : ∃ v, l[k]? = some v := ⟨_, List.getElem?_eq_getElem hlt⟩
    obtain ⟨gb, go, rfl, hgb, q0, q1, q2⟩ := rd_val hr hv
    have r0 := (hbel.cell (p := ⟨gb, go + k * 3, none⟩) (by show gb < _; omega)).trans q0
    have r1 := (hbel.cell (p := ⟨gb, go + k * 3 + 1, none⟩) (by show gb < _; omega)).trans q1
    have r2 := (hbel.cell (p := ⟨gb, go + k * 3 + 2, none⟩) (by show gb < _; omega)).trans q2
    have hkI : (k : Int) < (l.length : Int) := by omega
    have HV := Lib.hid hv
    have C0 := HP.out wr hbel v (List.mem_of_getElem? hv)
    have hent := HENT.out
    obtain ⟨pv, hpv⟩ : ∃ x, x = p v := ⟨_, rfl⟩
    rw [← hpv] at C0
    have HC := Lib.hid C0
    have HPV := Lib.hid hpv
    clear q0 q1 q2 hv C0 hpv
    go_wp2_with fail
    refine HC.out.mono ?_; rintro e w4 ⟨rfl, hb4⟩
    have hb04 : Below w.heap.size w w4 := hbel.trans (hb4.mono hbel.size)
    cases pv
    · go_wp2_with fail
      go_roundw
      case rel =>
        refine ⟨k + 1, by omega, by go_num, fun x hx => ?_, hb04⟩
        rw [List.take_add_one, HV.out] at hx
        rcases List.mem_append.1 hx with h | h
        · exact HALL.out x h
        · simp at h; subst h; exact HPV.out.symm
      case measure => simp [intOf]; omega
    · have he : fidx p l = (k : Int) := fidx_yes HV.out HPV.out.symm HALL.out
      have HE := Lib.hid he
      clear he
      go_wp2_with fail
      go_ret
      exact ⟨by rw [HE.out]; rfl, hb04⟩

set_option maxHeartbeats 1000000 in
set_option maxRecDepth 100000 in
theorem index0_any (B : Nat) (A : Option Addr) (c : Nat) (l : List V) (f : FuncId) (p : V → Bool) (w : World) (hr : Rd w B A (vcells l)) (hB : B ≤ w.heap.size) (hl : l.length ≤ 65536) (hent : ∀ args w, (callFunc f args).run Try.prog w = .ok (.enter f args) w)
    (hp : ∀ w', Below w.heap.size w w' → ∀ v ∈ l, Calls Try.prog f #[va v] w' fun e w'' => e = .returned (.bool (p v)) ∧ Below w'.heap.size w' w'') :
    Calls Try.prog 90 #[.slice A l.length c, .func (.func f) #[] #[]] w fun e w' => e = .returned (.int .i64 (fidx p l)) ∧ Below w.heap.size w w' := by
  have HP := Lib.hid hp
  have HENT := Lib.hid hent
  clear hp hent
  go_enter Try.func90, Try.ntmps90
  go_wp2
  go_loopw [8] (fun v8 wr => ∃ k : Nat, k ≤ l.length ∧ v8 = .int .i64 k ∧ (∀ v ∈ l.take k, p v = false) ∧ Below w.heap.size w wr) (fun v8 _ => l.length - (intOf v8).toNat)
  case atStart => exact ⟨0, by omega, rfl, by simp, Below.refl _ _⟩
  case round =>
    obtain ⟨k, hk, rfl, hall, hbel⟩ := hrel
    have HALL := Lib.hid hall
    clear hall
    by_cases hlt : k < l.length
    case neg =>
      have hkk : k = l.length := by omega
      have he : fidx p l = -1 := by
        have h1 := HALL.out
        rw [hkk, List.take_length] at h1
        exact fidx_no h1
      have HE := Lib.hid he
      have hge : (l.length : Int) ≤ (k : Int) := by omega
      clear he hkk
      go_wp2_with fail
      go_ret
      exact ⟨by rw [HE.out]; rfl, hbel⟩
    obtain ⟨v, hv⟩ : ∃ v, l[k]? = some v := ⟨_, List.getElem?_eq_getElem hlt⟩
    obtain ⟨gb, go, rfl, hgb, q0, q1, q2⟩ := rd_val hr hv
    have r0 := (hbel.cell (p := ⟨gb, go + k * 3, none⟩) (by show gb < _; omega)).trans q0
    have r1 := (hbel.cell (p := ⟨gb, go + k * 3 + 1, none⟩) (by show gb < _; omega)).trans q1
    have r2 := (hbel.cell (p := ⟨gb, go + k * 3 + 2, none⟩) (by show gb < _; omega)).trans q2
    have hkI : (k : Int) < (l.length : Int) := by omega
    have HV := Lib.hid hv
    have C0 := HP.out wr hbel v (List.mem_of_getElem? hv)
    have hent := HENT.out
    obtain ⟨pv, hpv⟩ : ∃ x, x = p v := ⟨_, rfl⟩
    rw [← hpv] at C0
    have HC := Lib.hid C0
    have HPV := Lib.hid hpv
    clear q0 q1 q2 hv C0 hpv
    go_wp2_with fail
    refine HC.out.mono ?_; rintro e w4 ⟨rfl, hb4⟩
    have hb04 : Below w.heap.size w w4 := hbel.trans (hb4.mono hbel.size)
    cases pv
    · go_wp2_with fail
      go_roundw
      case rel =>
        refine ⟨k + 1, by omega, by go_num, fun x hx => ?_, hb04⟩
        rw [List.take_add_one, HV.out] at hx
        rcases List.mem_append.1 hx with h | h
        · exact HALL.out x h
        · simp at h; subst h; exact HPV.out.symm
      case measure => simp [intOf]; omega
    · have he : fidx p l = (k : Int) := fidx_yes HV.out HPV.out.symm HALL.out
      have HE := Lib.hid he
      clear he
      go_wp2_with fail
      go_ret
      exact ⟨by rw [HE.out]; rfl, hb04⟩

end Go.Proofs.Ythkpgjcnnfdibaa

/-! The walks of slices.ContainsFunc, Clone, DeleteFunc over values, and of the closures of column.Put (layer 6). For at most 65536 values. -/
namespace Go.Proofs.Ythkpgjcnnfdibaa
open Go.RowKit Go.Maps
set_option linter.unusedVariables false
set_option linter.unusedSimpArgs false

set_option maxRecDepth 100000 in
theorem put1c_any (q : Nat) (t : UInt8) (v : V) (hk : v.k < 256) (hn : i64r v.n) (ht : v.t.length ≤ 1000000) (w : World) (hq : w.cell? ⟨q, 0, none⟩ = some (b8 t)) :
    Calls Try.prog 49 #[va v, .pointer (some ⟨q, 0, none⟩)] w fun e w' => e = .returned (.bool (!rmay t v)) ∧ Below w.heap.size w w' := by
  have M0 := fun w => cmay_any t v hk hn ht w
  obtain ⟨m, hm⟩ : ∃ m, m = rmay t v := ⟨_, rfl⟩
  rw [← hm] at M0 ⊢
  have HM := Lib.hid M0
  have ha : ∀ o, (w.alloc o).cell? ⟨q, 0, none⟩ = some (b8 t) := fun o => cell_al hq (cell_lt hq) o
  clear hm M0 hq
  go_enter Try.func49, Try.ntmps49
  go_wp2_with fail
  refine (HM.out _).mono ?_; rintro e w2 ⟨rfl, hb2⟩
  have hb : Below w.heap.size w w2 := ((Below.refl _ w).alloc (Nat.le_refl _) _).trans (hb2.mono (by simp))
  go_wp2_with fail
  go_ret
  exact ⟨rfl, hb⟩
set_option maxRecDepth 100000 in
theorem put2c_any (v : V) (w : World) :
    Calls Try.prog 53 #[va v] w fun e w' => e = .returned (.bool (isNull v)) ∧ Below w.heap.size w w' := by
  obtain ⟨m, hm⟩ : ∃ m, m = isNull v := ⟨_, rfl⟩
  have hm2 : ((v.k : Int) == 0) = m := by
    rw [hm]
    by_cases h : v.k = 0
    · simp [isNull, h]
    · simp only [isNull, decide_eq_false h]; exact beq_eq_false_iff_ne.2 (by omega)
  rw [← hm]
  have HM := Lib.hid hm2
  clear hm hm2
  obtain ⟨k, n, t⟩ := v
  go_enter Try.func53, Try.ntmps53
  go_wp2
  go_ret
  exact ⟨by rw [← HM.out]; rfl, by go_grown⟩
theorem fidx_any (p : V → Bool) (l : List V) : decide (0 ≤ fidx p l) = l.any p := by
  unfold fidx
  by_cases h : l.any p = true
  · rw [if_pos h, h]; simp
  · rw [if_neg h]
    have : l.any p = false := by simpa using h
    rw [this]; rfl
set_option maxRecDepth 100000 in
theorem contains1_any (B : Nat) (A : Option Addr) (c : Nat) (l : List V) (f : FuncId) (q : Value) (p : V → Bool) (w : World) (hr : Rd w B A (vcells l)) (hB : B ≤ w.heap.size) (hl : l.length ≤ 65536) (hent : ∀ args w, (callFunc f args).run Try.prog w = .ok (.enter f args) w)
    (hp : ∀ w', Below w.heap.size w w' → ∀ v ∈ l, Calls Try.prog f #[va v, q] w' fun e w'' => e = .returned (.bool (p v)) ∧ Below w'.heap.size w' w'') :
    Calls Try.prog 48 #[.slice A l.length c, .func (.func f) #[] #[q]] w fun e w' => e = .returned (.bool (l.any p)) ∧ Below w.heap.size w w' := by
  have I0 := index1_any B A c l f q p w hr hB hl hent hp
  have he := fidx_any p l
  obtain ⟨x, hx⟩ : ∃ x, x = fidx p l := ⟨_, rfl⟩
  rw [← hx] at I0 he
  have HI := Lib.hid I0
  have HE := Lib.hid he
  clear I0 he hx hp
  go_enter Try.func48, Try.ntmps48
  go_wp2_with fail
  refine HI.out.mono ?_; rintro e w2 ⟨rfl, hb2⟩
  go_wp2_with fail
  go_ret
  exact ⟨by rw [← HE.out]; rfl, hb2⟩

/-- What a call that answers values leaves: they lie in new memory. -/
def RetVs (w : World) (l : List V) (e : Ending) (w' : World) : Prop :=
  ∃ A c, e = .returned (.slice A l.length c) ∧ w'.ownsRow w.heap.size 46 3 (.slice A l.length c) l.length (vcells l) ∧ Below w.heap.size w w'
theorem retVs_of {w w' : World} {l : List V} {v : Value} (h : w'.ownsRow w.heap.size 46 3 v l.length (vcells l)) (hb : Below w.heap.size w w') : RetVs w l (.returned v) w' := by
  obtain ⟨A, c, rfl, _⟩ := own_form h
  exact ⟨A, c, rfl, h, hb⟩
set_option maxRecDepth 100000 in
theorem clone_any (B : Nat) (A : Option Addr) (c : Nat) (l : List V) (w : World) (hr : Rd w B A (vcells l)) (hB : B ≤ w.heap.size) (hl : l.length ≤ 65536) :
    Calls Try.prog 52 #[.slice A l.length c] w (RetVs w l) := by
  obtain ⟨by_, HEL, hby⟩ := El_val
  have hnil := fun (w : World) (a : Option Addr) (n c : Nat) => Lib.run_eql_slice_nil (P := Try.prog) w 37 46 a n c 0 0 Try.underlying37
  rcases A with _ | ad
  · have hn : l = [] := by
      rcases hr with h | ⟨b, o, h, _⟩
      · have := congrArg List.length h
        rw [vcells_length] at this
        exact List.eq_nil_of_length_eq_zero (by simp at this; omega)
      · cases h
    subst hn
    go_enter Try.func52, Try.ntmps52
    go_wp2
    go_ret
    exact retVs_of (World.ownsRow_nil _ _ _ _) (Below.refl _ _)
  · go_enter Try.func52, Try.ntmps52
    go_wp2_with (at_builtin; refine wpList_app HEL rfl _ _ rfl (lit0_val w) rfl rfl (hr.alloc hB _) (vcells_length l) (vcells_one l) (by unfold maxLen; omega) (by have : (0 + l.length) * by_ ≤ 65536 * 64 := Nat.mul_le_mul (by omega) hby; omega) (by simp) ?_; intro v4 w4 hown4 hg4 _; rw [Nat.zero_add, List.nil_append] at hown4)
    have hb4 : Below w.heap.size w w4 := ((Below.refl _ _).alloc (Nat.le_refl _) _).trans (own_below (lit0_val w) hg4 (by simp))
    go_ret
    exact retVs_of hown4 hb4

/-! ### clear -/
theorem zeroCells_val (n : Nat) : (Builtin.zeroCells (Value.agg #[.int .u8 0, .int .i64 0, .string ByteArray.empty]).cells n).toList = vcells (List.replicate n null) := by
  have h := vcells_rep null n (Value.agg #[.int .u8 0, .int .i64 0, .string ByteArray.empty]).cells rfl
  rw [← h]
  unfold Builtin.zeroCells madeCells
  rfl
end Go.Proofs.Ythkpgjcnnfdibaa

/-! The walk of slices.DeleteFunc over values of the call's own (layer 6): what is left lies in the same memory. For at most 65536 values. -/
namespace Go.Proofs.Ythkpgjcnnfdibaa
open Go.RowKit Go.Maps
set_option linter.unusedVariables false
set_option linter.unusedSimpArgs false

theorem from_vals (A : Option Addr) (n c u : Nat) (hu : u ≤ n) (w : World) (z : Int) (hz : z = u) :
    (Instr.sliceAt 37 (.slice A n c) (some (.int .i64 z)) none none).run Try.prog w = .ok (.slice (if c = u then A else A.map (·.add (u * 3))) (n - u) (c - u)) w := by
  obtain ⟨by_, hinfo, hby⟩ := Try.infoVal
  obtain ⟨i0, hi, hz0, hz1, hz2⟩ := info_parts hinfo
  subst hz
  simp [Instr.sliceAt, Instr.slice, run_underlying Try.underlying37, Instr.sliceBounds, run_sliceBound, sizeOf, typeInfo, hi, hz1, (by omega : (0 : Int) ≤ (u : Int)), (by omega : (u : Int) ≤ (n : Int))]
theorem upto_vals {A : Option Addr} {n c : Nat} (m : Nat) (hm : m ≤ n) (hc : n ≤ c) (w' : World) (z : Int) (hz : z = m) :
    (Instr.sliceAt 37 (.slice A n c) none (some (.int .i64 z)) none).run Try.prog w' = .ok (.slice A m c) w' := by
  obtain ⟨by_, hinfo, hby⟩ := Try.infoVal
  obtain ⟨i0, hi, hz0, hz1, hz2⟩ := info_parts hinfo
  subst hz
  simp [Instr.sliceAt, Instr.slice, run_underlying Try.underlying37, Instr.sliceBounds, run_sliceBound, sizeOf, typeInfo, hi, hz1, (by omega : (0 : Int) ≤ (m : Int)), (by omega : (m : Int) ≤ (c : Int))]
  intro _
  cases A <;> simp [Addr.add]
theorem run_clear_own {w : World} {base g n cap : Nat} {l : List V} (h : w.ownsRow base 46 3 (.slice (some ⟨g, 0, none⟩) n cap) n (vcells l)) (i : Nat) (hi : i ≤ n) (ty : TypeId) :
    ∃ w', (Builtin.clear_ #[37] ty #[.slice (if cap = i then some ⟨g, 0, none⟩ else (some (⟨g, 0, none⟩ : Addr)).map (·.add (i * 3))) (n - i) (cap - i)]).run Try.prog w = .ok (.tuple #[]) w' ∧
      w'.ownsRow base 46 3 (.slice (some ⟨g, 0, none⟩) n cap) n (vcells (l.take i ++ List.replicate (n - i) null)) ∧ w.grownBy w' (some g) := by
  obtain ⟨by_, hinfo, hby⟩ := Try.infoVal
  obtain ⟨i0, hi0, hz0, hz1, hz2⟩ := info_parts hinfo
  have hll : l.length = n := by have := h.1; rw [vcells_length] at this; omega
  rcases h.2 with ⟨hv, _⟩ | ⟨g', cap', cur, hv, hbg, hh, hnc, hcm, hcs, htake⟩
  · cases hv
  simp only [Value.slice.injEq, Option.some.injEq, Addr.mk.injEq, and_true, true_and] at hv
  obtain ⟨rfl, rfl⟩ := hv
  by_cases hin : i = n
  · refine ⟨w, ?_, ?_, World.grownBy.refl w _⟩
    · have h0 : n - i = 0 := by omega
      rw [h0]
      split <;> simp [Builtin.clear_, run_underlying Try.underlying37]
    · rw [show n - i = 0 by omega, List.replicate_zero, List.append_nil, List.take_of_length_le (by omega)]
      exact h
  · have hci : ¬ cap = i := by omega
    obtain ⟨m, hm⟩ : ∃ m, n - i = m + 1 := ⟨n - i - 1, by omega⟩
    have hzc := zeroCells_val (m + 1)
    have hzl : (vcells (List.replicate (m + 1) null)).length = (m + 1) * 3 := by rw [vcells_length, List.length_replicate]
    have hst := run_storeCells_at Try.prog g (i * 3) 46 (vcells (List.replicate (m + 1) null)) 0 cur w hh (by rw [hzl, hcs]; omega) (vcells_one _)
    have hzv : ∀ w, (zeroValue 46).run Try.prog w = .ok (.agg #[.int .u8 0, .int .i64 0, .string ByteArray.empty]) w := fun w => by simp [zeroValue, typeInfo, hi0, hz0]
    have hadd : ((⟨g, 0, none⟩ : Addr).add (i * 3)) = ⟨g, i * 3, none⟩ := by unfold Addr.add; split <;> simp_all
    refine ⟨w.setRow g (cur.toList.take (i * 3 + 0) ++ vcells (List.replicate (m + 1) null) ++ cur.toList.drop (i * 3 + 0 + (vcells (List.replicate (m + 1) null)).length)).toArray, ?_, ⟨?_, .inr ⟨g, cap, _, rfl, hbg, setRow_heap w g cur _ _ _ hh, hnc, hcm, ?_, ?_⟩⟩, ⟨rfl, rfl, rfl, by simp, fun k _ hk => setRow_other w g k _ (fun e => hk (by simp [e]))⟩⟩
    · rw [if_neg hci, hm]
      simp only [Option.map_some, hadd]
      simp [Builtin.clear_, run_underlying Try.underlying37, hzv]
      rw [hzc, hst]
      simp [Result.andThen, List.append_assoc]
    · rw [vcells_length, List.length_append, List.length_take, List.length_replicate]; omega
    · simp only [List.size_toArray, List.length_append, List.length_take, List.length_drop, Array.length_toList, hzl]
      omega
    · rw [hm, vcells_append]
      have h1 : vcells (l.take i) = cur.toList.take (i * 3) := by
        have h2 : vcells l = vcells (l.take i) ++ vcells (l.drop i) := by rw [← vcells_append, List.take_append_drop]
        have h3 : (vcells (l.take i)).length = i * 3 := by rw [vcells_length, List.length_take]; omega
        have h4 : (cur.toList.take (n * 3)).take (i * 3) = vcells (l.take i) := by rw [htake, h2, ← h3, List.take_left]
        rw [← h4, List.take_take, Nat.min_eq_left (by omega)]
      rw [h1, Nat.add_zero]
      have hlen : (cur.toList.take (i * 3) ++ vcells (List.replicate (m + 1) null)).length = n * 3 := by
        rw [List.length_append, hzl, List.length_take, Array.length_toList, hcs]; omega
      rw [← hlen]
      exact List.take_left
theorem wpList_clear {w : World} {ops : Array Oper} {rest : List Oper} {o : Oper} {a : Act} {Q : Exit → Act → World → Prop} (hgd : o.guard = none) (s : Operand)
    (ho : o.op = .call { callee := .builtin .clear, args := #[s], argTypes := #[37] }) (v : Value) (hs : a.eval s = v) {w' : World}
    (hrun : ∀ ty, (Builtin.clear_ #[37] ty #[v]).run Try.prog w = .ok (.tuple #[]) w') (h : wpList Try.prog ops Q rest (a.put o.dst (.tuple #[])) w') : wpList Try.prog ops Q (o :: rest) a w := by
  refine wpList_plain hgd fun _ hK => ?_
  unfold Oper.wp execOp
  simp only [ho, resolve, invoke, builtin, Sem.run_bind, Sem.run_pure, Result.andThen_ok, List.map_toArray, List.map_cons, List.map_nil, hs, hrun]
  exact hK _ _ h

theorem marks_snoc {l : List V} {k : Nat} {v : V} (h : l[k]? = some v) : marks (l.take (k + 1)) = marks (l.take k) ++ (if isNull v then [] else [v]) := by
  unfold marks
  rw [List.take_add_one, h, List.filter_append]
  congr 1
  by_cases hn : isNull v = true
  · simp [hn]
  · have hn0 : isNull v = false := by simpa using hn
    simp [hn0]
theorem marks_all {l : List V} (h : ∀ v ∈ l, isNull v = false) : marks l = l := List.filter_eq_self.2 fun v hv => by rw [h v hv]; rfl
theorem marks_le (l : List V) : (marks l).length ≤ l.length := List.length_filter_le _ _
theorem fidx_cases (p : V → Bool) (l : List V) : (fidx p l = -1 ∧ ∀ v ∈ l, p v = false) ∨ ∃ (k : Nat) (v : V), fidx p l = (k : Int) ∧ l[k]? = some v ∧ p v = true ∧ ∀ u ∈ l.take k, p u = false := by
  by_cases h : l.any p = true
  · right
    have hk : l.findIdx p < l.length := List.findIdx_lt_length_of_exists (List.any_eq_true.1 h)
    refine ⟨l.findIdx p, l[l.findIdx p], by unfold fidx; rw [if_pos h], List.getElem?_eq_getElem hk, List.findIdx_getElem, fun u hu => ?_⟩
    obtain ⟨j, hj, rfl⟩ := List.mem_take_iff_getElem.1 hu
    have := List.not_of_lt_findIdx (show j < l.findIdx p by omega)
    simpa using this
  · left
    have h0 : l.any p = false := by simpa using h
    rw [List.any_eq_false] at h0
    exact ⟨by unfold fidx; rw [if_neg h], fun v hv => by simpa using h0 v hv⟩

set_option maxHeartbeats 4000000 in
set_option maxRecDepth 100000 in
theorem delete_any (base : Nat) (A : Option Addr) (c : Nat) (l : List V) (w : World) (hown : w.ownsRow base 46 3 (.slice A l.length c) l.length (vcells l)) (hbase : base ≤ w.heap.size) (hl : l.length ≤ 65536) :
    Calls Try.prog 51 #[.slice A l.length c, .func (.func 53) #[] #[]] w fun e w' => ∃ A' c', e = .returned (.slice A' (marks l).length c') ∧ Rd w' w'.heap.size A' (vcells (marks l)) ∧ Below base w w' := by
  have I0 := index0_any w.heap.size A c l 53 isNull w (rd_own hown) (Nat.le_refl _) hl (fun _ _ => by kernel_rfl) (fun w' h v hv => put2c_any v w')
  rcases fidx_cases isNull l with ⟨he, hno⟩ | ⟨k0, v0, he, hv0, hp0, hno⟩
  · rw [he] at I0
    have HI := Lib.hid I0
    have hm := marks_all hno
    rw [hm]
    clear I0 he hno hm
    go_enter Try.func51, Try.ntmps51
    go_wp2_with fail
    refine HI.out.mono ?_; rintro e w2 ⟨rfl, hb2⟩
    have hown2 := own_bel hown hb2
    go_wp2_with fail
    go_ret
    exact ⟨A, c, rfl, rd_own hown2, hb2.mono hbase⟩
  · have hk0 : k0 < l.length := (List.getElem?_eq_some_iff.1 hv0).1
    rw [he] at I0
    have HI := Lib.hid I0
    obtain ⟨n, hn⟩ : ∃ n, n = l.length := ⟨_, rfl⟩
    obtain ⟨g, cap, hA, hg1⟩ : ∃ g cap, Value.slice A l.length c = .slice (some ⟨g, 0, none⟩) l.length cap ∧ base ≤ g := by
      rcases hown.2 with ⟨hv, hz⟩ | ⟨g, cap, cur, hv, hb, _⟩
      · omega
      · exact ⟨g, cap, hv, hb⟩
    simp only [Value.slice.injEq, true_and] at hA
    obtain ⟨rfl, rfl⟩ := hA
    have hnc : n ≤ c := by rw [hn]; exact own_le hown
    rw [← hn] at hown hk0 HI ⊢
    rw [← hn] at hl
    have HN := Lib.hid hn
    have h0 : marks (l.take (k0 + 1)) = l.take k0 := by rw [marks_snoc hv0, if_pos hp0, List.append_nil, marks_all hno]
    have H0 := Lib.hid h0
    have HV0 := Lib.hid hv0
    have hkI : ((k0 : Int) == -1) = false := beq_eq_false_iff_ne.2 (by omega)
    clear I0 he hno h0 hv0 hp0 hn
    go_enter Try.func51, Try.ntmps51
    go_wp2_with fail
    refine HI.out.mono ?_; rintro e w1 ⟨rfl, hb1⟩
    have hown1 := own_bel hown hb1
    have hb01 : Below base w w1 := hb1.mono hbase
    go_wp2_with fail
    go_loopw [5, 6] (fun v5 v6 wr => ∃ (j i : Nat) (mid : List V), j ≤ n ∧ v6 = .int .i64 j ∧ v5 = .int .i64 i ∧ i = (marks (l.take j)).length ∧ i + mid.length = j ∧ i < j ∧
        wr.ownsRow base 46 3 (.slice (some ⟨g, 0, none⟩) n c) n (vcells (marks (l.take j) ++ (mid ++ l.drop j))) ∧ Below base w wr) (fun _ v6 _ => n - (intOf v6).toNat)
    case atStart =>
      refine ⟨k0 + 1, k0, [v0], by omega, by go_num, rfl, ?_, rfl, by omega, ?_, hb01⟩
      · rw [H0.out, List.length_take, ← HN.out]; omega
      · have e : marks (l.take (k0 + 1)) ++ ([v0] ++ l.drop (k0 + 1)) = l := by
          rw [H0.out]
          have h1 : l.drop k0 = v0 :: l.drop (k0 + 1) := by
            have hlt : k0 < l.length := by rw [← HN.out]; exact hk0
            have h2 := HV0.out
            rw [List.getElem?_eq_getElem hlt] at h2
            rw [← Option.some.inj h2]; exact List.drop_eq_getElem_cons hlt
          rw [List.singleton_append, ← h1, List.take_append_drop]
        rw [e]; exact hown1
    case round =>
      clear hown hown1 hb1 hb01
      obtain ⟨j, i, mid, hj, rfl, rfl, hi, hmid, hij, hown, hbel⟩ := hrel
      have HIL := Lib.hid hi
      have hbs := hbel.size
      clear hi
      by_cases hlt : j < n
      case neg =>
        have hjn : j = n := by omega
        have hge : (n : Int) ≤ (j : Int) := by omega
        have hin : i ≤ n := by omega
        have hml : (marks l).length = i := by rw [HIL.out, hjn, HN.out, List.take_length]
        have hX : marks (l.take j) ++ (mid ++ l.drop j) = marks l ++ mid := by rw [hjn, HN.out, List.take_length, List.drop_length, List.append_nil]
        rw [hX] at hown
        obtain ⟨w3, hrun, hown3, hg3⟩ := run_clear_own hown i hin 0
        have hci : ¬ (c = i) := by omega
        have hrun2 : (Builtin.clear_ #[37] 0 #[.slice (some ⟨g, i * 3, none⟩) (n - i) (c - i)]).run Try.prog wr = .ok (.tuple #[]) w3 := by
          rw [if_neg hci] at hrun
          have e : (some (⟨g, 0, none⟩ : Addr)).map (·.add (i * 3)) = some ⟨g, i * 3, none⟩ := by
            simp only [Option.map_some, Addr.add, Nat.zero_add]
            by_cases h0 : i * 3 = 0
            · rw [h0]; rfl
            · simp [h0]
          rw [e] at hrun
          exact hrun
        have hsl := fun w' => from_vals (some ⟨g, 0, none⟩) n c i hin w' (i : Int) rfl
        have hsu := fun w' => upto_vals (A := some ⟨g, 0, none⟩) i hin hnc w' (i : Int) rfl
        have hb3 : Below base w w3 := hbel.grown hg3 (by omega) (fun k hk => by cases hk; exact hg1)
        have hrd := (rd_own hown3).take (i * 3)
        have e3 : (vcells ((marks l ++ mid).take i ++ List.replicate (n - i) null)).take (i * 3) = vcells (marks l) := by
          rw [show (marks l ++ mid).take i = marks l by rw [← hml, List.take_left], vcells_append, show i * 3 = (vcells (marks l)).length by rw [vcells_length, hml], List.take_left]
        rw [e3] at hrd
        have HML := Lib.hid hml
        clear hrun hX e3 hown hjn hml
        go_wp2_with fail
        go_ret
        exact ⟨some ⟨g, 0, none⟩, c, by rw [HML.out]; rfl, hrd, hb3⟩
      obtain ⟨v, hv⟩ : ∃ v, l[j]? = some v := ⟨_, List.getElem?_eq_getElem (by rw [← HN.out]; exact hlt)⟩
      have hjI : (j : Int) < (n : Int) := by omega
      have hiI : (i : Int) < (n : Int) := by omega
      have hin : i < n := by omega
      have hd : l.drop j = v :: l.drop (j + 1) := by
        have h1 : j < l.length := by rw [← HN.out]; exact hlt
        rw [List.getElem?_eq_getElem h1] at hv
        rw [← Option.some.inj hv]; exact List.drop_eq_getElem_cons h1
      obtain ⟨X, hX⟩ : ∃ X, X = marks (l.take j) ++ (mid ++ l.drop j) := ⟨_, rfl⟩
      rw [← hX] at hown
      have hXj : X[j]? = some v := by
        rw [hX, List.getElem?_append_right (by rw [← HIL.out]; omega), List.getElem?_append_right (by rw [← HIL.out]; omega), ← HIL.out, show j - i - mid.length = 0 by omega, hd]; rfl
      have hXl : X.length = n := by have := hown.1; rw [vcells_length] at this; omega
      have q0 := hown.cellAt (j * 3) (by omega)
      have q1 := hown.cellAt (j * 3 + 1) (by omega)
      have q2 := hown.cellAt (j * 3 + 2) (by omega)
      obtain ⟨e1, e2, e3⟩ := vcells_at _ _ _ hXj
      rw [e1] at q0; rw [e2] at q1; rw [e3] at q2
      have hms := marks_snoc hv
      have P0 := fun w => put2c_any v w
      obtain ⟨pv, hpv⟩ : ∃ x, x = isNull v := ⟨_, rfl⟩
      rw [← hpv] at P0 hms
      have HP := Lib.hid P0
      have HMS := Lib.hid hms
      have HX := Lib.hid hX
      have HD := Lib.hid hd
      clear P0 hms hX hd hpv hv e1 e2 e3 hXj
      go_wp2_with fail
      refine (HP.out _).mono ?_; rintro e w4 ⟨rfl, hb4⟩
      obtain ⟨w3, hw3⟩ : ∃ w3, w3 = wr.alloc (.cells #[.int .u8 (v.k : Int), .int .i64 v.n, txt v.t] 46) := ⟨_, rfl⟩
      rw [← hw3] at hb4
      have hb3 : Below base w w3 := by rw [hw3]; exact hbel.alloc (by omega) _
      have hown3 : w3.ownsRow base 46 3 (.slice (some ⟨g, 0, none⟩) n c) n (vcells X) := by rw [hw3]; exact hown.alloc _
      obtain ⟨c0, c1, c2⟩ := cv_block wr (.int .u8 (v.k : Int)) (.int .i64 v.n) (txt v.t) 46
      rw [← hw3] at c0 c1 c2
      have hb3s := hb3.size
      have d0 := cell_be c0 hb4 (cell_lt c0)
      have d1 := cell_be c1 hb4 (cell_lt c1)
      have d2 := cell_be c2 hb4 (cell_lt c2)
      have hown4 := own_bel hown3 hb4
      have hb04 : Below base w w4 := hb3.trans (hb4.mono (by omega))
      clear hw3 hb3 hown3 c0 c1 c2 hown q0 q1 q2
      cases pv
      · obtain ⟨y, hy⟩ : ∃ y, X[i]? = some y := ⟨_, List.getElem?_eq_getElem (by omega)⟩
        have ca := hown4.cellAt (i * 3) (by omega)
        have cb := hown4.cellAt (i * 3 + 1) (by omega)
        have cc := hown4.cellAt (i * 3 + 2) (by omega)
        obtain ⟨e1, e2, e3⟩ := vcells_at _ _ _ hy
        rw [e1] at ca; rw [e2] at cb; rw [e3] at cc
        have fa := hown4.frozenAt (i * 3)
        have fb := hown4.frozenAt (i * 3 + 1)
        have fc := hown4.frozenAt (i * 3 + 2)
        have hset := own_set3 hown4 v (show i < X.length by omega)
        have HSET := Lib.hid hset
        clear e1 e2 e3 hy hset
        go_wp2_with fail
        go_roundw
        case rel =>
          obtain ⟨m0, mid', hmm⟩ : ∃ m0 mid', mid = m0 :: mid' := by
            rcases mid with _ | ⟨a, b⟩
            · simp at hmid; omega
            · exact ⟨a, b, rfl⟩
          refine ⟨j + 1, i + 1, mid' ++ [v], by omega, by go_num, by go_num, ?_, ?_, by omega, ?_, ?_⟩
          · rw [HMS.out, List.length_append, ← HIL.out]; rfl
          · rw [hmm] at hmid; simp at hmid ⊢; omega
          · have e : X.set i v = marks (l.take (j + 1)) ++ (mid' ++ [v] ++ l.drop (j + 1)) := by
              rw [HX.out, hmm, List.set_append_right _ _ (by rw [← HIL.out]; omega), ← HIL.out, Nat.sub_self, HD.out, HMS.out]
              simp
            rw [← e]; exact HSET.out
          · exact ((hb04.setCell (p := ⟨g, i * 3, none⟩) hg1 _).setCell (p := ⟨g, i * 3 + 1, none⟩) hg1 _).setCell (p := ⟨g, i * 3 + 2, none⟩) hg1 _
        case measure => simp [intOf]; omega
      · go_wp2_with fail
        go_roundw
        case rel =>
          refine ⟨j + 1, i, mid ++ [v], by omega, by go_num, rfl, ?_, by simp; omega, by omega, ?_, hb04⟩
          · rw [HMS.out, List.length_append, ← HIL.out]; rfl
          · have e : X = marks (l.take (j + 1)) ++ (mid ++ [v] ++ l.drop (j + 1)) := by
              rw [HX.out, HD.out, HMS.out]
              simp
            rw [← e]; exact hown4
        case measure => simp [intOf]; omega
end Go.Proofs.Ythkpgjcnnfdibaa

/-! A map of words with their numbers (map[string]int, made by the call); the walk of column.putTexts (layer 6). -/
namespace Go.Proofs.Ythkpgjcnnfdibaa
open Go.RowKit Go.Maps
set_option linter.unusedVariables false
set_option linter.unusedSimpArgs false

theorem lawS : Keyed Try.prog 9 := string_keyed Try.underlying9
theorem keyS (t : List UInt8) (h : t.length ≤ 4294967296) : keyOf Try.prog 9 (txt t) = some (.string t) := by
  have := WideMaps.keyOf_string_mk (P := Try.prog) Try.underlying9 (s := ⟨t.toArray⟩) (by simp [ByteArray.size]; unfold maxLen; omega)
  simpa using this

/-- block b is a map that holds each word with its number -/
def WMap (w : World) (b : Nat) (ws : List (List UInt8)) : Prop :=
  ∃ es clock, w.heap[b]? = some (.map es clock) ∧ es.toList.length = ws.length ∧ (∀ (i : Nat) t, ws[i]? = some t → ∃ e : MapEntry, es.toList[i]? = some e ∧ e.key = txt t ∧ e.val = .int .i64 i) ∧ ws.Nodup ∧ ∀ t ∈ ws, t.length ≤ 4294967296

theorem WMap.made (w : World) : WMap (w.alloc (.map #[] 0)) w.heap.size [] :=
  ⟨#[], 0, (MapKept.heap_alloc w _).1, rfl, by simp, List.nodup_nil, by simp⟩
theorem WMap.lt {w : World} {b : Nat} {ws : List (List UInt8)} (h : WMap w b ws) : b < w.heap.size := by
  obtain ⟨es, clock, hb, _⟩ := h
  exact (Array.getElem?_eq_some_iff.1 hb).1
theorem WMap.kept {w w' : World} {b : Nat} {ws : List (List UInt8)} {row : Option Nat} (h : WMap w b ws) (hg : w.grownBy w' row) (hne : some b ≠ row) : WMap w' b ws := by
  have hlt := h.lt
  obtain ⟨es, clock, hb, F⟩ := h
  exact ⟨es, clock, (hg.block b hlt hne).trans hb, F⟩
theorem WMap.alloc {w : World} {b : Nat} {ws : List (List UInt8)} (h : WMap w b ws) (o : Obj) : WMap (w.alloc o) b ws := h.kept (World.grownBy_alloc w o none) (by simp)
theorem WMap.bel {w w' : World} {b B : Nat} {ws : List (List UInt8)} (h : WMap w b ws) (hb : Below B w w') (hlt : b < B) : WMap w' b ws := by
  obtain ⟨es, clock, h1, F⟩ := h
  exact ⟨es, clock, (hb.block b hlt).trans h1, F⟩
theorem WMap.keys {es : Array MapEntry} {ws : List (List UInt8)} (hl : es.toList.length = ws.length) (he : ∀ (i : Nat) t, ws[i]? = some t → ∃ e : MapEntry, es.toList[i]? = some e ∧ e.key = txt t ∧ e.val = .int .i64 i) (hm : ∀ t ∈ ws, t.length ≤ 4294967296) :
    ∀ (j : Nat) (e : MapEntry), es.toList[j]? = some e → ∃ t, ws[j]? = some t ∧ e.key = txt t ∧ e.val = .int .i64 j ∧ t.length ≤ 4294967296 := by
  intro j e hj
  have hjl : j < ws.length := by rw [← hl]; exact (List.getElem?_eq_some_iff.1 hj).1
  obtain ⟨e', h1, h2, h3⟩ := he j _ (List.getElem?_eq_getElem hjl)
  rw [hj] at h1
  obtain rfl := Option.some.inj h1
  exact ⟨_, List.getElem?_eq_getElem hjl, h2, h3, hm _ (List.getElem_mem hjl)⟩

theorem find_word {ws : List (List UInt8)} (hn : ws.Nodup) {j : Nat} {t : List UInt8} (h : ws[j]? = some t) : ws.idxOf t = j ∧ t ∈ ws := by
  obtain ⟨hj, rfl⟩ := List.getElem?_eq_some_iff.1 h
  exact ⟨List.Nodup.idxOf_getElem hn j hj, List.getElem_mem hj⟩

theorem WMap.find {w : World} {ws : List (List UInt8)} {es : Array MapEntry} (hl : es.toList.length = ws.length) (he : ∀ (i : Nat) t, ws[i]? = some t → ∃ e : MapEntry, es.toList[i]? = some e ∧ e.key = txt t ∧ e.val = .int .i64 i) (hn : ws.Nodup) (hm : ∀ t ∈ ws, t.length ≤ 4294967296)
    (t : List UInt8) (ht : t.length ≤ 4294967296) :
    (t ∉ ws ∧ (Instr.findKey 9 (txt t) es.toList).run Try.prog w = .ok none w) ∨ (t ∈ ws ∧ ∃ j, (Instr.findKey 9 (txt t) es.toList).run Try.prog w = .ok (some (j, .int .i64 (ws.idxOf t : Nat))) w) := by
  have hk := WMap.keys hl he hm
  rcases lawS.find w (keyS t ht) es.toList (fun e hem => by
    obtain ⟨j, hj⟩ := List.getElem?_of_mem hem
    obtain ⟨t', _, h2, _, h4⟩ := hk j e hj
    exact ⟨_, by rw [h2]; exact keyS t' h4⟩) with ⟨h1, h2⟩ | ⟨j, e, h1, h2, h3⟩
  · refine Or.inl ⟨fun hmem => ?_, h1⟩
    obtain ⟨j, hj⟩ := List.getElem?_of_mem hmem
    obtain ⟨e, he1, he2, _⟩ := he j t hj
    exact h2 e (List.mem_of_getElem? he1) he2
  · obtain ⟨t', ht', hk', hv', _⟩ := hk j e h2
    rw [hk', txt_inj] at h3
    subst h3
    obtain ⟨hi, hmem⟩ := find_word hn ht'
    exact Or.inr ⟨hmem, j, by rw [h1, hv', hi]⟩

set_option maxRecDepth 100000 in
theorem zeroInt (w : World) : (zeroValue 3).run Try.prog w = .ok (.int .i64 0) w := by rfl

theorem WMap.look {w : World} {b : Nat} {ws : List (List UInt8)} (h : WMap w b ws) (t : List UInt8) (ht : t.length ≤ 4294967296) :
    (Instr.lookup 124 (.map (some b)) (txt t) true).run Try.prog w = .ok (.tuple #[.int .i64 (if t ∈ ws then (ws.idxOf t : Nat) else 0), .bool (decide (t ∈ ws))]) w := by
  obtain ⟨es, clock, hb, hl, he, hn, hm⟩ := h
  rcases WMap.find (w := w) hl he hn hm t ht with ⟨h0, h1⟩ | ⟨h0, j, h1⟩
  · simp [Instr.lookup, run_underlying Try.underlying124, MapKept.run_getObj_map hb, lawS.check w _ (keyS t ht), h1, zeroInt, Result.andThen, h0]
  · simp [Instr.lookup, run_underlying Try.underlying124, MapKept.run_getObj_map hb, lawS.check w _ (keyS t ht), h1, Result.andThen, h0]
theorem WMap.look1 {w : World} {b : Nat} {ws : List (List UInt8)} (h : WMap w b ws) (t : List UInt8) (ht : t.length ≤ 4294967296) (hmem : t ∈ ws) :
    (Instr.lookup 124 (.map (some b)) (txt t) false).run Try.prog w = .ok (.int .i64 (ws.idxOf t : Nat)) w := by
  obtain ⟨es, clock, hb, hl, he, hn, hm⟩ := h
  rcases WMap.find (w := w) hl he hn hm t ht with ⟨h0, h1⟩ | ⟨h0, j, h1⟩
  · exact absurd hmem h0
  · simp [Instr.lookup, run_underlying Try.underlying124, MapKept.run_getObj_map hb, lawS.check w _ (keyS t ht), h1, Result.andThen]
theorem WMap.len {w : World} {b : Nat} {ws : List (List UInt8)} (h : WMap w b ws) (ty : TypeId) : (Builtin.len_ #[124] ty #[.map (some b)]).run Try.prog w = .ok (.int .i64 (ws.length : Nat)) w := by
  obtain ⟨es, clock, hb, hl, _⟩ := h
  have hl2 : es.size = ws.length := by simpa using hl
  simp [Builtin.len_, run_underlying Try.underlying124, MapKept.run_getObj_map hb, goInt, Result.andThen, hl2]
theorem WMap.put {w : World} {b : Nat} {ws : List (List UInt8)} (h : WMap w b ws) (t : List UInt8) (ht : t.length ≤ 4294967296) (hmem : t ∉ ws) :
    ∃ w', (Instr.mapUpdate 124 (.map (some b)) (txt t) (.int .i64 (ws.length : Nat))).run Try.prog w = .ok () w' ∧ WMap w' b (ws ++ [t]) ∧ w.grownBy w' (some b) := by
  obtain ⟨es, clock, hb, hl, he, hn, hm⟩ := h
  rcases WMap.find (w := w) hl he hn hm t ht with ⟨h0, h1⟩ | ⟨h0, j, h1⟩
  · have hl2 : es.size = ws.length := by simpa using hl
    refine ⟨ChangeMaps.setBlock w b (.map (es.push ⟨txt t, .int .i64 (ws.length : Nat), clock⟩) (clock + 1)), ?_, ⟨_, _, ChangeMaps.heap_setBlock_same hb _, ?_, ?_, ?_, ?_⟩, ⟨rfl, rfl, rfl, by simp [ChangeMaps.setBlock], fun i _ hi => ChangeMaps.heap_setBlock_other hb _ (fun e => hi (by rw [e]))⟩⟩
    · simp [Instr.mapUpdate, run_underlying Try.underlying124, MapKept.run_getObj_map hb, lawS.check w false (keyS t ht), h1, MapKept.run_setObj_map _ hb, Result.andThen, ChangeMaps.setBlock]
    · simp [hl2]
    · intro i u hu
      rw [Array.toList_push]
      by_cases hi : i < ws.length
      · rw [List.getElem?_append_left hi] at hu
        obtain ⟨e, h1, h2⟩ := he i u hu
        exact ⟨e, by rw [List.getElem?_append_left (by rw [hl]; exact hi)]; exact h1, h2⟩
      · have hi2 : i = ws.length := by
          have := (List.getElem?_eq_some_iff.1 hu).1
          simp at this; omega
        subst hi2
        rw [List.getElem?_append_right (Nat.le_refl _), Nat.sub_self] at hu
        obtain rfl : t = u := by simpa using hu
        exact ⟨_, by rw [List.getElem?_append_right (by rw [hl]; exact Nat.le_refl _), hl, Nat.sub_self]; rfl, rfl, rfl⟩
    · rw [List.nodup_append]
      exact ⟨hn, by simp, by simp; intro a ha e; exact h0 (e ▸ ha)⟩
    · intro u hu
      rcases List.mem_append.1 hu with h | h
      · exact hm u h
      · simp at h; rw [h]; exact ht
  · exact absurd h0 hmem
end Go.Proofs.Ythkpgjcnnfdibaa

/- The walks of slices.IndexFunc, ContainsFunc, Clone over spans (layer 10). For at most 10^9 spans. -/
import Derived.Test.YtiohdacbnigpkaaSet1
namespace Go.Proofs.Ytiohdacbnigpkaa
open Go.RowKit Go.Maps
set_option linter.unusedVariables false
set_option linter.unusedSimpArgs false

/-! ### searches -/
/-- the first place at which p holds; -1 if none -/
def fidx (p : S2 → Bool) (l : List S2) : Int := if l.any p then (l.findIdx p : Int) else -1
theorem fidx_no {p : S2 → Bool} {l : List S2} (h : ∀ v ∈ l, p v = false) : fidx p l = -1 := by
  unfold fidx
  rw [if_neg]
  rw [Bool.not_eq_true, List.any_eq_false]
  exact fun v hv => by simp [h v hv]
theorem fidx_yes {p : S2 → Bool} {l : List S2} {k : Nat} {v : S2} (hv : l[k]? = some v) (hp : p v = true) (h : ∀ v ∈ l.take k, p v = false) : fidx p l = (k : Int) := by
  have hk : k < l.length := (List.getElem?_eq_some_iff.1 hv).1
  have hvk : l[k] = v := (List.getElem?_eq_some_iff.1 hv).2
  unfold fidx
  rw [if_pos (List.any_eq_true.2 ⟨v, List.mem_of_getElem? hv, hp⟩)]
  have : l.findIdx p = k := by
    refine (List.findIdx_eq hk).2 ⟨by rw [hvk]; exact hp, fun j hj => ?_⟩
    exact h _ (List.mem_take_iff_getElem.2 ⟨j, by omega, rfl⟩)
  rw [this]

set_option maxHeartbeats 1000000 in
set_option maxRecDepth 100000 in
theorem index1_any (B : Nat) (A : Option Addr) (c : Nat) (l : List S2) (f : FuncId) (q : Value) (p : S2 → Bool) (w : World) (hr : Rd w B A (scells l)) (hB : B ≤ w.heap.size) (hl : l.length ≤ 1000000000) (hent : ∀ args w, (callFunc f args).run Try.prog w = .ok (.enter f args) w)
    (hp : ∀ w', Below w.heap.size w w' → ∀ v ∈ l, Calls Try.prog f #[sa v, q] w' fun e w'' => e = .returned (.bool (p v)) ∧ Below w'.heap.size w' w'') :
    Calls Try.prog 60 #[.slice A l.length c, .func (.func f) #[] #[q]] w fun e w' => e = .returned (.int .i64 (fidx p l)) ∧ Below w.heap.size w w' := by
  have HP := Lib.hid hp
  have HENT := Lib.hid hent
  clear hp hent
  go_enter Try.func60, Try.ntmps60
  go_wp2
  go_loopw [8] (fun v8 wr => ∃ k : Nat, k ≤ l.length ∧ v8 = .int .i64 k ∧ (∀ v ∈ l.take k, p v = false) ∧ Below w.heap.size w wr) (fun v8 _ => l.length - (intOf v8).toNat)
  case atStart => exact ⟨0, by omega, rfl, by simp, Below.refl _ _⟩
  case round =>
    obtain ⟨k, hk, rfl, hall, hbel⟩ := hrel
    have HALL := Lib.hid hall
    clear hall
    by_cases hlt : k < l.length
    case neg =>
      have hkk : k = l.length := by omega
      have he : fidx p l = -1 := by
        have h1 := HALL.out
        rw [hkk, List.take_length] at h1
        exact fidx_no h1
      have HE := Lib.hid he
      have hge : (l.length : Int) ≤ (k : Int) := by omega
      clear he hkk
      go_wp2_with fail
      go_ret
      exact ⟨by rw [HE.out]; rfl, hbel⟩
    obtain ⟨v, hv⟩ : ∃ v, l[k]? = some v := ⟨_, List.getElem?_eq_getElem hlt⟩
    obtain ⟨gb, go, rfl, hgb, q0, q1⟩ := rd_span hr hv
    have r0 := (hbel.cell (p := ⟨gb, go + k * 2, none⟩) (by show gb < _; omega)).trans q0
    have r1 := (hbel.cell (p := ⟨gb, go + k * 2 + 1, none⟩) (by show gb < _; omega)).trans q1
    have hkI : (k : Int) < (l.length : Int) := by omega
    have HV := Lib.hid hv
    have C0 := HP.out wr hbel v (List.mem_of_getElem? hv)
    have hent := HENT.out
    obtain ⟨pv, hpv⟩ : ∃ x, x = p v := ⟨_, rfl⟩
    rw [← hpv] at C0
    have HC := Lib.hid C0
    have HPV := Lib.hid hpv
    clear q0 q1 hv C0 hpv
    go_wp2_with fail
    refine HC.out.mono ?_; rintro e w4 ⟨rfl, hb4⟩
    have hb04 : Below w.heap.size w w4 := hbel.trans (hb4.mono hbel.size)
    cases pv
    · go_wp2_with fail
      go_roundw
      case rel =>
        refine ⟨k + 1, by omega, by go_num, fun x hx => ?_, hb04⟩
        rw [List.take_add_one, HV.out] at hx
        rcases List.mem_append.1 hx with h | h
        · exact HALL.out x h
        · simp at h; subst h; exact HPV.out.symm
      case measure => simp [intOf]; omega
    · have he : fidx p l = (k : Int) := fidx_yes HV.out HPV.out.symm HALL.out
      have HE := Lib.hid he
      clear he
      go_wp2_with fail
      go_ret
      exact ⟨by rw [HE.out]; rfl, hb04⟩

set_option maxHeartbeats 1000000 in
set_option maxRecDepth 100000 in
theorem index0_any (B : Nat) (A : Option Addr) (c : Nat) (l : List S2) (f : FuncId) (p : S2 → Bool) (w : World) (hr : Rd w B A (scells l)) (hB : B ≤ w.heap.size) (hl : l.length ≤ 1000000000) (hent : ∀ args w, (callFunc f args).run Try.prog w = .ok (.enter f args) w)
    (hp : ∀ w', Below w.heap.size w w' → ∀ v ∈ l, Calls Try.prog f #[sa v] w' fun e w'' => e = .returned (.bool (p v)) ∧ Below w'.heap.size w' w'') :
    Calls Try.prog 60 #[.slice A l.length c, .func (.func f) #[] #[]] w fun e w' => e = .returned (.int .i64 (fidx p l)) ∧ Below w.heap.size w w' := by
  have HP := Lib.hid hp
  have HENT := Lib.hid hent
  clear hp hent
  go_enter Try.func60, Try.ntmps60
  go_wp2
  go_loopw [8] (fun v8 wr => ∃ k : Nat, k ≤ l.length ∧ v8 = .int .i64 k ∧ (∀ v ∈ l.take k, p v = false) ∧ Below w.heap.size w wr) (fun v8 _ => l.length - (intOf v8).toNat)
  case atStart => exact ⟨0, by omega, rfl, by simp, Below.refl _ _⟩
  case round =>
    obtain ⟨k, hk, rfl, hall, hbel⟩ := hrel
    have HALL := Lib.hid hall
    clear hall
    by_cases hlt : k < l.length
    case neg =>
      have hkk : k = l.length := by omega
      have he : fidx p l = -1 := by
        have h1 := HALL.out
        rw [hkk, List.take_length] at h1
        exact fidx_no h1
      have HE := Lib.hid he
      have hge : (l.length : Int) ≤ (k : Int) := by omega
      clear he hkk
      go_wp2_with fail
      go_ret
      exact ⟨by rw [HE.out]; rfl, hbel⟩
    obtain ⟨v, hv⟩ : ∃ v, l[k]? = some v := ⟨_, List.getElem?_eq_getElem hlt⟩
    obtain ⟨gb, go, rfl, hgb, q0, q1⟩ := rd_span hr hv
    have r0 := (hbel.cell (p := ⟨gb, go + k * 2, none⟩) (by show gb < _; omega)).trans q0
    have r1 := (hbel.cell (p := ⟨gb, go + k * 2 + 1, none⟩) (by show gb < _; omega)).trans q1
    have hkI : (k : Int) < (l.length : Int) := by omega
    have HV := Lib.hid hv
    have C0 := HP.out wr hbel v (List.mem_of_getElem? hv)
    have hent := HENT.out
    obtain ⟨pv, hpv⟩ : ∃ x, x = p v := ⟨_, rfl⟩
    rw [← hpv] at C0
    have HC := Lib.hid C0
    have HPV := Lib.hid hpv
    clear q0 q1 hv C0 hpv
    go_wp2_with fail
    refine HC.out.mono ?_; rintro e w4 ⟨rfl, hb4⟩
    have hb04 : Below w.heap.size w w4 := hbel.trans (hb4.mono hbel.size)
    cases pv
    · go_wp2_with fail
      go_roundw
      case rel =>
        refine ⟨k + 1, by omega, by go_num, fun x hx => ?_, hb04⟩
        rw [List.take_add_one, HV.out] at hx
        rcases List.mem_append.1 hx with h | h
        · exact HALL.out x h
        · simp at h; subst h; exact HPV.out.symm
      case measure => simp [intOf]; omega
    · have he : fidx p l = (k : Int) := fidx_yes HV.out HPV.out.symm HALL.out
      have HE := Lib.hid he
      clear he
      go_wp2_with fail
      go_ret
      exact ⟨by rw [HE.out]; rfl, hb04⟩

theorem fidx_any (p : S2 → Bool) (l : List S2) : decide (0 ≤ fidx p l) = l.any p := by
  unfold fidx
  by_cases h : l.any p = true
  · rw [if_pos h, h]; simp
  · rw [if_neg h]
    have : l.any p = false := by simpa using h
    rw [this]; rfl
set_option maxRecDepth 100000 in
theorem contains1_any (B : Nat) (A : Option Addr) (c : Nat) (l : List S2) (f : FuncId) (q : Value) (p : S2 → Bool) (w : World) (hr : Rd w B A (scells l)) (hB : B ≤ w.heap.size) (hl : l.length ≤ 1000000000) (hent : ∀ args w, (callFunc f args).run Try.prog w = .ok (.enter f args) w)
    (hp : ∀ w', Below w.heap.size w w' → ∀ v ∈ l, Calls Try.prog f #[sa v, q] w' fun e w'' => e = .returned (.bool (p v)) ∧ Below w'.heap.size w' w'') :
    Calls Try.prog 39 #[.slice A l.length c, .func (.func f) #[] #[q]] w fun e w' => e = .returned (.bool (l.any p)) ∧ Below w.heap.size w w' := by
  have I0 := index1_any B A c l f q p w hr hB hl hent hp
  have he := fidx_any p l
  obtain ⟨x, hx⟩ : ∃ x, x = fidx p l := ⟨_, rfl⟩
  rw [← hx] at I0 he
  have HI := Lib.hid I0
  have HE := Lib.hid he
  clear I0 he hx hp
  go_enter Try.func39, Try.ntmps39
  go_wp2_with fail
  refine HI.out.mono ?_; rintro e w2 ⟨rfl, hb2⟩
  go_wp2_with fail
  go_ret
  exact ⟨by rw [← HE.out]; rfl, hb2⟩

set_option maxRecDepth 100000 in
theorem clone_any (B : Nat) (A : Option Addr) (c : Nat) (l : List S2) (w : World) (hr : Rd w B A (scells l)) (hB : B ≤ w.heap.size) (hl : l.length ≤ 1000000000) :
    Calls Try.prog 46 #[.slice A l.length c] w (RetSs w l) := by
  obtain ⟨by_, HEL, hby⟩ := El_span
  have hnil := fun (w : World) (a : Option Addr) (n c : Nat) => Lib.run_eql_slice_nil (P := Try.prog) w 22 27 a n c 0 0 Try.underlying22
  rcases A with _ | ad
  · have hn : l = [] := by
      rcases hr with h | ⟨b, o, h, _⟩
      · have := congrArg List.length h
        rw [scells_length] at this
        exact List.eq_nil_of_length_eq_zero (by simp at this; omega)
      · cases h
    subst hn
    go_enter Try.func46, Try.ntmps46
    go_wp2
    go_ret
    exact retSs_of (World.ownsRow_nil _ _ _ _) (Below.refl _ _)
  · go_enter Try.func46, Try.ntmps46
    go_wp2_with (at_builtin; refine wpList_app HEL rfl _ _ rfl (lit0_span w) rfl rfl (hr.alloc hB _) (scells_length l) (scells_one l) (by unfold maxLen; omega) (by have : (0 + l.length) * by_ ≤ 1000000000 * 64 := Nat.mul_le_mul (by omega) hby; omega) (by simp) ?_; intro v4 w4 hown4 hg4 _; rw [Nat.zero_add, List.nil_append] at hown4)
    have hb4 : Below w.heap.size w w4 := ((Below.refl _ _).alloc (Nat.le_refl _) _).trans (own_below (lit0_span w) hg4 (by simp))
    go_ret
    exact retSs_of hown4 hb4

end Go.Proofs.Ytiohdacbnigpkaa

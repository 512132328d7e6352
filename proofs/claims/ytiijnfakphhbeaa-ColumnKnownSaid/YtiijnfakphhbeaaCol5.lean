/- The walks of slices.ContainsFunc, Clone, DeleteFunc over values, and of the closures of column.Put (layer 6). For at most 65536 values. -/
import Derived.Test.YtiijnfakphhbeaaCol4
namespace Go.Proofs.Ytiijnfakphhbeaa
open Go.RowKit Go.Maps
set_option linter.unusedVariables false
set_option linter.unusedSimpArgs false

set_option maxRecDepth 100000 in
theorem put1c_any (q : Nat) (t : UInt8) (v : V) (hk : v.k < 256) (hn : i64r v.n) (ht : v.t.length ≤ 1000000) (w : World) (hq : w.cell? ⟨q, 0, none⟩ = some (b8 t)) :
    Calls Try.prog 25 #[va v, .pointer (some ⟨q, 0, none⟩)] w fun e w' => e = .returned (.bool (!rmay t v)) ∧ Below w.heap.size w w' := by
  have M0 := fun w => cmay_any t v hk hn ht w
  obtain ⟨m, hm⟩ : ∃ m, m = rmay t v := ⟨_, rfl⟩
  rw [← hm] at M0 ⊢
  have HM := Lib.hid M0
  have ha : ∀ o, (w.alloc o).cell? ⟨q, 0, none⟩ = some (b8 t) := fun o => cell_al hq (cell_lt hq) o
  clear hm M0 hq
  go_enter Try.func25, Try.ntmps25
  go_wp2_with fail
  refine (HM.out _).mono ?_; rintro e w2 ⟨rfl, hb2⟩
  have hb : Below w.heap.size w w2 := ((Below.refl _ w).alloc (Nat.le_refl _) _).trans (hb2.mono (by simp))
  go_wp2_with fail
  go_ret
  exact ⟨rfl, hb⟩
set_option maxRecDepth 100000 in
theorem put2c_any (v : V) (w : World) :
    Calls Try.prog 29 #[va v] w fun e w' => e = .returned (.bool (isNull v)) ∧ Below w.heap.size w w' := by
  obtain ⟨m, hm⟩ : ∃ m, m = isNull v := ⟨_, rfl⟩
  have hm2 : ((v.k : Int) == 0) = m := by
    rw [hm]
    by_cases h : v.k = 0
    · simp [isNull, h]
    · simp only [isNull, decide_eq_false h]; exact beq_eq_false_iff_ne.2 (by omega)
  rw [← hm]
  have HM := Lib.hid hm2
  clear hm hm2
  obtain ⟨k, n, t⟩ := v
  go_enter Try.func29, Try.ntmps29
  go_wp2
  go_ret
  exact ⟨by rw [← HM.out]; rfl, by go_grown⟩
theorem fidx_any (p : V → Bool) (l : List V) : decide (0 ≤ fidx p l) = l.any p := by
  unfold fidx
  by_cases h : l.any p = true
  · rw [if_pos h, h]; simp
  · rw [if_neg h]
    have : l.any p = false := by simpa using h
    rw [this]; rfl
set_option maxRecDepth 100000 in
theorem contains1_any (B : Nat) (A : Option Addr) (c : Nat) (l : List V) (f : FuncId) (q : Value) (p : V → Bool) (w : World) (hr : Rd w B A (vcells l)) (hB : B ≤ w.heap.size) (hl : l.length ≤ 65536) (hent : ∀ args w, (callFunc f args).run Try.prog w = .ok (.enter f args) w)
    (hp : ∀ w', Below w.heap.size w w' → ∀ v ∈ l, Calls Try.prog f #[va v, q] w' fun e w'' => e = .returned (.bool (p v)) ∧ Below w'.heap.size w' w'') :
    Calls Try.prog 24 #[.slice A l.length c, .func (.func f) #[] #[q]] w fun e w' => e = .returned (.bool (l.any p)) ∧ Below w.heap.size w w' := by
  have I0 := index1_any B A c l f q p w hr hB hl hent hp
  have he := fidx_any p l
  obtain ⟨x, hx⟩ : ∃ x, x = fidx p l := ⟨_, rfl⟩
  rw [← hx] at I0 he
  have HI := Lib.hid I0
  have HE := Lib.hid he
  clear I0 he hx hp
  go_enter Try.func24, Try.ntmps24
  go_wp2_with fail
  refine HI.out.mono ?_; rintro e w2 ⟨rfl, hb2⟩
  go_wp2_with fail
  go_ret
  exact ⟨by rw [← HE.out]; rfl, hb2⟩

/-- What a call that answers values leaves: they lie in new memory. -/
def RetVs (w : World) (l : List V) (e : Ending) (w' : World) : Prop :=
  ∃ A c, e = .returned (.slice A l.length c) ∧ w'.ownsRow w.heap.size 38 3 (.slice A l.length c) l.length (vcells l) ∧ Below w.heap.size w w'
theorem retVs_of {w w' : World} {l : List V} {v : Value} (h : w'.ownsRow w.heap.size 38 3 v l.length (vcells l)) (hb : Below w.heap.size w w') : RetVs w l (.returned v) w' := by
  obtain ⟨A, c, rfl, _⟩ := own_form h
  exact ⟨A, c, rfl, h, hb⟩
set_option maxRecDepth 100000 in
theorem clone_any (B : Nat) (A : Option Addr) (c : Nat) (l : List V) (w : World) (hr : Rd w B A (vcells l)) (hB : B ≤ w.heap.size) (hl : l.length ≤ 65536) :
    Calls Try.prog 28 #[.slice A l.length c] w (RetVs w l) := by
  obtain ⟨by_, HEL, hby⟩ := El_val
  have hnil := fun (w : World) (a : Option Addr) (n c : Nat) => Lib.run_eql_slice_nil (P := Try.prog) w 22 38 a n c 0 0 Try.underlying22
  rcases A with _ | ad
  · have hn : l = [] := by
      rcases hr with h | ⟨b, o, h, _⟩
      · have := congrArg List.length h
        rw [vcells_length] at this
        exact List.eq_nil_of_length_eq_zero (by simp at this; omega)
      · cases h
    subst hn
    go_enter Try.func28, Try.ntmps28
    go_wp2
    go_ret
    exact retVs_of (World.ownsRow_nil _ _ _ _) (Below.refl _ _)
  · go_enter Try.func28, Try.ntmps28
    go_wp2_with (at_builtin; refine wpList_app HEL rfl _ _ rfl (lit0_val w) rfl rfl (hr.alloc hB _) (vcells_length l) (vcells_one l) (by unfold maxLen; omega) (by have : (0 + l.length) * by_ ≤ 65536 * 64 := Nat.mul_le_mul (by omega) hby; omega) (by simp) ?_; intro v4 w4 hown4 hg4 _; rw [Nat.zero_add, List.nil_append] at hown4)
    have hb4 : Below w.heap.size w w4 := ((Below.refl _ _).alloc (Nat.le_refl _) _).trans (own_below (lit0_val w) hg4 (by simp))
    go_ret
    exact retVs_of hown4 hb4

/-! ### clear -/
theorem zeroCells_val (n : Nat) : (Builtin.zeroCells (Value.agg #[.int .u8 0, .int .i64 0, .string ByteArray.empty]).cells n).toList = vcells (List.replicate n null) := by
  have h := vcells_rep null n (Value.agg #[.int .u8 0, .int .i64 0, .string ByteArray.empty]).cells rfl
  rw [← h]
  unfold Builtin.zeroCells madeCells
  rfl
end Go.Proofs.Ytiijnfakphhbeaa

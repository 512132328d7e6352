/- Plain laws of layer 6 on least and greatest values. No program in sight. -/
import Derived.Test.YtiijnfakphhbeaaCR9
import Derived.Test.YtiijnfakphhbeaaColQ
namespace Go.Proofs.Ytiijnfakphhbeaa
open Go.RowKit
set_option linter.unusedVariables false

theorem bl_trans : ∀ a b c : List UInt8, bl a b = true → bl b c = true → bl a c = true
  | a, b, [], h1, h2 => by rw [bl_nil] at h2; cases h2
  | a, [], c :: z, h1, h2 => by rw [bl_nil] at h1; cases h1
  | [], b :: y, c :: z, h1, h2 => rfl
  | a :: x, b :: y, c :: z, h1, h2 => by
    rw [bl_cc] at *
    simp only [Bool.or_eq_true, decide_eq_true_eq, Bool.and_eq_true, beq_iff_eq, UInt8.lt_iff_toNat_lt] at *
    rcases h1 with h1 | ⟨rfl, h1⟩
    · rcases h2 with h2 | ⟨rfl, h2⟩
      · left; omega
      · left; exact h1
    · rcases h2 with h2 | ⟨rfl, h2⟩
      · left; exact h2
      · right; exact ⟨rfl, bl_trans x y z h1 h2⟩
theorem bl_ntrans : ∀ a b c : List UInt8, bl a b = false → bl b c = false → bl a c = false
  | a, b, [], _, _ => bl_nil a
  | a, [], c :: z, h1, h2 => by rw [bl_nc] at h2; cases h2
  | [], b :: y, c :: z, h1, h2 => by rw [bl_nc] at h1; cases h1
  | a :: x, b :: y, c :: z, h1, h2 => by
    rw [bl_cc] at *
    simp only [Bool.or_eq_false_iff, decide_eq_false_iff_not, Bool.and_eq_false_iff, beq_eq_false_iff_ne, UInt8.lt_iff_toNat_lt] at *
    obtain ⟨p1, p2⟩ := h1
    obtain ⟨q1, q2⟩ := h2
    refine ⟨by omega, ?_⟩
    by_cases hac : a = c
    · right
      subst hac
      have hab : a = b := UInt8.toNat_inj.1 (by omega)
      subst hab
      rcases p2 with p2 | p2
      · exact absurd rfl p2
      rcases q2 with q2 | q2
      · exact absurd rfl q2
      exact bl_ntrans x y z p2 q2
    · left; exact hac
theorem lessV_bl {v w : V} (hv : good v) (hw : good w) : lessV v w = bl (kone v) (kone w) := by
  by_cases h : v = w
  · subst h; rw [less_same, bl_self]
  · have := kone_less v w [] [] hv hw h
    rw [List.append_nil, List.append_nil] at this
    exact this.symm
def lo (x v : V) : V := if lessV v x = true then v else x
def hi (y v : V) : V := if lessV y v = true then v else y
theorem fold_pair : ∀ (r : List V) (x y : V), r.foldl bstepV (x, y) = (r.foldl lo x, r.foldl hi y)
  | [], x, y => rfl
  | v :: r, x, y => by
    rw [List.foldl_cons, List.foldl_cons, List.foldl_cons, ← fold_pair r]; rfl
theorem lo_spec : ∀ (r : List V) (x : V), (∀ v ∈ x :: r, good v) → r.foldl lo x ∈ x :: r ∧ ∀ v ∈ x :: r, lessV v (r.foldl lo x) = false
  | [], x, h => ⟨List.mem_cons_self .., fun v hv => by simp at hv; rw [hv]; exact less_same⟩
  | u :: r, x, h => by
    have hx := h x (List.mem_cons_self ..)
    have hu := h u (List.mem_cons_of_mem _ (List.mem_cons_self ..))
    have hr : ∀ v ∈ r, good v := fun v hv => h v (List.mem_cons_of_mem _ (List.mem_cons_of_mem _ hv))
    rw [List.foldl_cons]
    by_cases hl : lessV u x = true
    · have e : lo x u = u := by unfold lo; rw [if_pos hl]
      rw [e]
      obtain ⟨i1, i2⟩ := lo_spec r u (fun v hv => by
        rcases List.mem_cons.1 hv with rfl | hv
        · exact hu
        · exact hr v hv)
      have hg : good (r.foldl lo u) := by
        rcases List.mem_cons.1 i1 with h | h
        · rw [h]; exact hu
        · exact hr _ h
      refine ⟨List.mem_cons_of_mem _ i1, fun v hv => ?_⟩
      rcases List.mem_cons.1 hv with rfl | hv
      · have h2 := i2 u (List.mem_cons_self ..)
        cases h3 : lessV v (r.foldl lo u)
        · rfl
        · rw [lessV_bl hu hx] at hl
          rw [lessV_bl hx hg] at h3
          rw [lessV_bl hu hg] at h2
          rw [bl_trans _ _ _ hl h3] at h2; exact h2
      · exact i2 v hv
    · have e : lo x u = x := by unfold lo; rw [if_neg hl]
      rw [e]
      obtain ⟨i1, i2⟩ := lo_spec r x (fun v hv => by
        rcases List.mem_cons.1 hv with rfl | hv
        · exact hx
        · exact hr v hv)
      have hg : good (r.foldl lo x) := by
        rcases List.mem_cons.1 i1 with h | h
        · rw [h]; exact hx
        · exact hr _ h
      refine ⟨?_, fun v hv => ?_⟩
      · rcases List.mem_cons.1 i1 with h | h
        · rw [h]; exact List.mem_cons_self ..
        · exact List.mem_cons_of_mem _ (List.mem_cons_of_mem _ h)
      · rcases List.mem_cons.1 hv with rfl | hv
        · exact i2 _ (List.mem_cons_self ..)
        rcases List.mem_cons.1 hv with rfl | hv
        · have hl' : lessV v x = false := by simpa using hl
          rw [lessV_bl hu hx] at hl'
          have h2 := i2 x (List.mem_cons_self ..)
          rw [lessV_bl hx hg] at h2
          rw [lessV_bl hu hg]
          exact bl_ntrans _ _ _ hl' h2
        · exact i2 v (List.mem_cons_of_mem _ hv)
theorem hi_spec : ∀ (r : List V) (x : V), (∀ v ∈ x :: r, good v) → r.foldl hi x ∈ x :: r ∧ ∀ v ∈ x :: r, lessV (r.foldl hi x) v = false
  | [], x, h => ⟨List.mem_cons_self .., fun v hv => by simp at hv; rw [hv]; exact less_same⟩
  | u :: r, x, h => by
    have hx := h x (List.mem_cons_self ..)
    have hu := h u (List.mem_cons_of_mem _ (List.mem_cons_self ..))
    have hr : ∀ v ∈ r, good v := fun v hv => h v (List.mem_cons_of_mem _ (List.mem_cons_of_mem _ hv))
    rw [List.foldl_cons]
    by_cases hl : lessV x u = true
    · have e : hi x u = u := by unfold hi; rw [if_pos hl]
      rw [e]
      obtain ⟨i1, i2⟩ := hi_spec r u (fun v hv => by
        rcases List.mem_cons.1 hv with rfl | hv
        · exact hu
        · exact hr v hv)
      have hg : good (r.foldl hi u) := by
        rcases List.mem_cons.1 i1 with h | h
        · rw [h]; exact hu
        · exact hr _ h
      refine ⟨List.mem_cons_of_mem _ i1, fun v hv => ?_⟩
      rcases List.mem_cons.1 hv with rfl | hv
      · have h2 := i2 u (List.mem_cons_self ..)
        cases h3 : lessV (r.foldl hi u) v
        · rfl
        · rw [lessV_bl hx hu] at hl
          rw [lessV_bl hg hx] at h3
          rw [lessV_bl hg hu] at h2
          rw [bl_trans _ _ _ h3 hl] at h2; exact h2
      · exact i2 v hv
    · have e : hi x u = x := by unfold hi; rw [if_neg hl]
      rw [e]
      obtain ⟨i1, i2⟩ := hi_spec r x (fun v hv => by
        rcases List.mem_cons.1 hv with rfl | hv
        · exact hx
        · exact hr v hv)
      have hg : good (r.foldl hi x) := by
        rcases List.mem_cons.1 i1 with h | h
        · rw [h]; exact hx
        · exact hr _ h
      refine ⟨?_, fun v hv => ?_⟩
      · rcases List.mem_cons.1 i1 with h | h
        · rw [h]; exact List.mem_cons_self ..
        · exact List.mem_cons_of_mem _ (List.mem_cons_of_mem _ h)
      · rcases List.mem_cons.1 hv with rfl | hv
        · exact i2 _ (List.mem_cons_self ..)
        rcases List.mem_cons.1 hv with rfl | hv
        · have hl' : lessV x v = false := by simpa using hl
          rw [lessV_bl hx hu] at hl'
          have h2 := i2 x (List.mem_cons_self ..)
          rw [lessV_bl hg hx] at h2
          rw [lessV_bl hg hu]
          exact bl_ntrans _ _ _ h2 hl'
        · exact i2 v (List.mem_cons_of_mem _ hv)
/-- the least and the greatest value: marks, if there are any; nothing is below, nothing above -/
theorem bndV_spec {l : List V} (h : ∀ v ∈ l, good v) : (marks l = [] ∧ bndV l = (null, null)) ∨ (marks l ≠ [] ∧ (bndV l).1 ∈ marks l ∧ (bndV l).2 ∈ marks l ∧ ∀ v ∈ marks l, lessV v (bndV l).1 = false ∧ lessV (bndV l).2 v = false) := by
  have hm : ∀ v ∈ marks l, good v := fun v hv => h v (mem_marks.1 hv).1
  unfold bndV
  cases e : marks l with
  | nil => exact .inl ⟨rfl, rfl⟩
  | cons v r =>
    right
    rw [e] at hm
    have h1 := lo_spec r v hm
    have h2 := hi_spec r v hm
    rw [show bndM (v :: r) = r.foldl bstepV (v, v) from rfl, fold_pair]
    exact ⟨by simp, h1.1, h2.1, fun u hu => ⟨h1.2 u hu, h2.2 u hu⟩⟩
theorem marks_take_sub {l : List V} {k : Nat} {v : V} (h : v ∈ marks (l.take k)) : v ∈ marks l :=
  mem_marks.2 ⟨List.mem_of_mem_take (mem_marks.1 h).1, (mem_marks.1 h).2⟩
end Go.Proofs.Ytiijnfakphhbeaa

/- Plain laws of layer 3: rows that begin with a row. No program in sight. -/
import Derived.Test.YtdbhbfpfcdklmaaKeyQ
namespace Go.Proofs.Ytdbhbfpfcdklmaa
open Go.RowKit
set_option linter.unusedVariables false
set_option linter.unusedSimpArgs false

/-- at or above, and below what is above all that begin so -/
def inside (x y : List UInt8) : Bool := !bl y x && bl y (x ++ [255])
theorem inside_pre : ∀ (x y : List UInt8), inside x y = true → ∃ t, y = x ++ t
  | [], y, _ => ⟨y, rfl⟩
  | c :: x, [], h => by unfold inside at h; rw [bl_nc] at h; simp at h
  | c :: x, d :: y, h => by
    unfold inside at h
    by_cases e : d = c
    · subst e
      rw [List.cons_append, bl_eq, bl_eq] at h
      obtain ⟨t, ht⟩ := inside_pre x y h
      exact ⟨t, by rw [ht]; rfl⟩
    · rw [List.cons_append, bl_ne e, bl_ne e] at h
      simp at h
theorem pre_inside (x t : List UInt8) (h : ∀ c r, t = c :: r → c < 255) : inside x (x ++ t) = true := by
  unfold inside
  have e : bl (x ++ t) x = false := by
    have := bl_pre x t []
    rw [List.append_nil] at this
    rw [this, bl_nil]
  rw [e, bl_pre]
  match t, h with
  | [], _ => rfl
  | c :: r, h =>
    have hc := h c r rfl
    have hne : c ≠ 255 := by rintro rfl; exact absurd hc (by decide)
    rw [bl_ne hne]
    simpa using hc
theorem F_append (a b : List V) : F (a ++ b) = F a ++ F b := List.flatMap_append
theorem F_head (l : List V) (c : UInt8) (r : List UInt8) (h : F l = c :: r) : c < 255 := by
  match l, h with
  | [], h => cases h
  | v :: l, h =>
    rw [F_cons] at h
    unfold kone at h
    split at h
    · cases h; decide
    split at h
    · cases h; decide
    split at h
    · cases h; decide
    · cases h; decide
/-- bytes that begin with a row's bytes, and are a row's: the row begins with that one -/
theorem kp_pre : ∀ (a acc : List V) (s : List UInt8), (∀ v ∈ a, good v) → kp acc (F a ++ s) = kp (acc ++ a) s
  | [], acc, s, _ => by rw [List.append_nil]; rfl
  | v :: a, acc, s, h => by
    obtain ⟨c, r, h1, h2⟩ := rone_kone v (F a ++ s) (h v (by simp))
    rw [F_cons, List.append_assoc, h1, kp_cons, h2, if_pos rfl]
    rw [kp_pre a (acc ++ [v]) s (fun u hu => h u (by simp [hu])), List.append_assoc]; rfl
theorem F_pre {a b : List V} {s : List UInt8} (ha : ∀ v ∈ a, good v) (hb : ∀ v ∈ b, good v) (h : F b = F a ++ s) : ∃ l, b = a ++ l := by
  have h1 := kparse_F b hb
  unfold kparse at h1
  rw [h, kp_pre a [] s ha, List.nil_append] at h1
  rcases kp_inv _ s a b 0 (Nat.le_refl _) h1 with ⟨_, l, h2, _⟩ | ⟨_, h2⟩
  · exact ⟨l, h2⟩
  · omega
theorem begins_inside (a b : List V) (ha : ∀ v ∈ a, good v) (hb : ∀ v ∈ b, good v) : (decide (a.length ≤ b.length) && decide (a = b.take a.length)) = inside (F a) (F b) := by
  rw [Bool.eq_iff_iff, Bool.and_eq_true, decide_eq_true_iff, decide_eq_true_iff]
  constructor
  · rintro ⟨h1, h2⟩
    obtain ⟨l, hl⟩ : ∃ l, b = a ++ l := ⟨b.drop a.length, by conv => lhs; rw [← List.take_append_drop a.length b, ← h2]⟩
    rw [hl, F_append]
    exact pre_inside _ _ fun c r h => F_head l c r h
  · intro h
    obtain ⟨s, hs⟩ := inside_pre _ _ h
    obtain ⟨l, hl⟩ := F_pre ha hb hs
    rw [hl]
    simp
theorem inside_app (x : List UInt8) (b : List V) : bl (x ++ F b) x = false ∧ bl (x ++ F b) (x ++ [255]) = true := by
  have := pre_inside x (F b) fun c r h => F_head b c r h
  unfold inside at this
  simpa using this
end Go.Proofs.Ytdbhbfpfcdklmaa

/- Plain: how many marks a column's bytes hold, and where they go (layer 6). No program in sight. -/
import Derived.Test.YtiijnfakphhbeaaColP3
namespace Go.Proofs.Ytiijnfakphhbeaa
open Go.RowKit
set_option linter.unusedVariables false

theorem zeros_snoc (b : List UInt8) (k : Nat) : zeros b (k + 1) = zeros b k + (if bitAt b k then 0 else 1) := by
  unfold zeros
  rw [List.range_succ, List.filter_append, List.length_append]
  cases h : bitAt b k <;> simp [h]
theorem zeros_mono (b : List UInt8) {k n : Nat} (h : k ≤ n) : zeros b k ≤ zeros b n := by
  induction n with
  | zero => simp at h; subst h; exact Nat.le_refl _
  | succ n ih =>
    by_cases hk : k = n + 1
    · rw [hk]; exact Nat.le_refl _
    · have := ih (by omega)
      rw [zeros_snoc]; omega
theorem zeros_le (b : List UInt8) (n : Nat) : zeros b n ≤ n := by
  unfold zeros
  exact Nat.le_trans (List.length_filter_le _ _) (by simp)
theorem rmarks_len {ws : List (List UInt8)} : ∀ (k : Nat) (out : List V) (r : List UInt8), (rmarks ws k out r).2.2 = 0 → (rmarks ws k out r).1.length = out.length + k
  | 0, out, r, _ => rfl
  | k + 1, out, r, h => by
    unfold rmarks at h ⊢
    by_cases h1 : (vget r).2.2 ≠ 0
    · rw [if_pos h1] at h; exact absurd h h1
    rw [if_neg h1] at h ⊢
    by_cases h2 : ws.length ≤ (vget r).1
    · rw [if_pos h2] at h; simp at h
    rw [if_neg h2] at h ⊢
    have := rmarks_len k _ _ h
    rw [this]; simp; omega
theorem tget_len {b : List UInt8} {n : Nat} (h : (tget b n).2 = 0) : (tget b n).1.length = n := by
  unfold tget at h ⊢
  by_cases h1 : (vget b).2.2 ≠ 0
  · rw [if_pos h1] at h; exact absurd h h1
  rw [if_neg h1] at h ⊢
  by_cases h2 : n < (vget b).1
  · rw [if_pos h2] at h; simp at h
  rw [if_neg h2] at h ⊢
  by_cases h3 : (rwords (vget b).1 [] (b.drop (vget b).2.1)).2.2 ≠ 0
  · rw [if_pos h3] at h; exact absurd h h3
  rw [if_neg h3] at h ⊢
  by_cases h4 : (rmarks (rwords (vget b).1 [] (b.drop (vget b).2.1)).1 n [] (rwords (vget b).1 [] (b.drop (vget b).2.1)).2.1).2.2 ≠ 0
  · rw [if_pos h4] at h; exact absurd h h4
  rw [if_neg h4] at h ⊢
  split at h
  · rename_i h5
    rw [if_pos h5]
    have := rmarks_len n [] _ (Decidable.not_not.1 h4)
    simpa using this
  · simp at h
theorem cread_len {t : UInt8} {b : List UInt8} {n : Nat} (h : (cread t b n).2 = 0) : (cread t b n).1.length = n := by
  unfold cread at h ⊢
  by_cases h1 : t.toNat = 1
  · rw [if_pos h1] at h ⊢
    by_cases h2 : tkE b n ≠ 0
    · rw [if_pos h2] at h; exact absurd h h2
    rw [if_neg h2] at h ⊢
    by_cases h3 : size8 n < b.length
    · rw [if_pos h3] at h; simp at h
    rw [if_neg h3]
    simp [truthsOf]
  rw [if_neg h1] at h ⊢
  by_cases h2 : t.toNat = 2
  · rw [if_pos h2] at h ⊢
    by_cases h3 : (In.iget b n).2 ≠ 0
    · rw [if_pos h3] at h; exact absurd h h3
    rw [if_neg h3]
    have := (In.iput_iget b n (Decidable.not_not.1 h3)).2.2.1
    simp only [List.length_map]
    omega
  rw [if_neg h2] at h ⊢
  exact tget_len h
/-- a column's values, one more -/
theorem merge_null {b : List UInt8} {i k : Nat} {l : List V} (h : bitAt b i = true) : merge b i (k + 1) l = null :: merge b (i + 1) k l := by
  conv => lhs; unfold merge
  rw [if_pos h]
theorem merge_mark {b : List UInt8} {i k : Nat} {v : V} {l : List V} (h : bitAt b i = false) : merge b i (k + 1) (v :: l) = v :: merge b (i + 1) k l := by
  conv => lhs; unfold merge
  rw [if_neg (by simp [h])]; rfl
theorem merge_len (b : List UInt8) : ∀ (k i : Nat) (l : List V), (merge b i k l).length = k
  | 0, i, l => rfl
  | k + 1, i, l => by
    unfold merge
    split <;> simp [merge_len b k]
end Go.Proofs.Ytiijnfakphhbeaa

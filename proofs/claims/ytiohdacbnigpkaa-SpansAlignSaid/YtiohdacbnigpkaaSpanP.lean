/- Plain laws of layer 9: what spans have in common; floors. No program in sight. -/
import Derived.Test.YtiohdacbnigpkaaSpan2
namespace Go.Proofs.Ytiohdacbnigpkaa

theorem andF_comm (a b c d : Int) : andF c d a b = andF a b c d := by
  simp only [andF, Int.min_comm d b, Int.max_comm c a]
theorem andT_comm (a b c d : Int) : andT c d a b = andT a b c d := by
  simp only [andT, Int.min_comm d b, Int.max_comm c a]
theorem and_cases (a b c d : Int) : (andF a b c d = 0 ∧ andT a b c d = 0 ∧ min b d ≤ max a c) ∨ (andF a b c d = max a c ∧ andT a b c d = min b d ∧ max a c < min b d) := by
  unfold andF andT
  by_cases h : min b d ≤ max a c
  · left; simp [h]
  · right; rw [if_neg h, if_neg h]; omega
theorem and_assoc_F (a b c d e f : Int) : andF a b (andF c d e f) (andT c d e f) = andF (andF a b c d) (andT a b c d) e f := by
  rcases and_cases a b c d with h | h <;> rcases and_cases c d e f with k | k <;>
    rcases and_cases a b (andF c d e f) (andT c d e f) with l | l <;> rcases and_cases (andF a b c d) (andT a b c d) e f with m | m <;> omega
theorem and_assoc_T (a b c d e f : Int) : andT a b (andF c d e f) (andT c d e f) = andT (andF a b c d) (andT a b c d) e f := by
  rcases and_cases a b c d with h | h <;> rcases and_cases c d e f with k | k <;>
    rcases and_cases a b (andF c d e f) (andT c d e f) with l | l <;> rcases and_cases (andF a b c d) (andT a b c d) e f with m | m <;> omega
theorem and_has (a b c d t : Int) : (andF a b c d ≤ t ∧ t < andT a b c d) ↔ ((a ≤ t ∧ t < b) ∧ (c ≤ t ∧ t < d)) := by
  rcases and_cases a b c d with h | h <;> omega
theorem and_or (a b c d : Int) : (andF a b c d = 0 ∧ andT a b c d = 0) ∨ andF a b c d < andT a b c d := by
  rcases and_cases a b c d with h | h <;> omega
end Go.Proofs.Ytiohdacbnigpkaa

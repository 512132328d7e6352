/- Plain laws on spans made whole. No program in sight (but for what And, Out, In compute). -/
import Derived.Test.YtdijmfnjjcknaaaSpanP2
namespace Go.Proofs.Ytdijmfnjjcknaaa
set_option linter.unusedVariables false

theorem cl_mod (t n : Int) : cl t n % n = 0 := by
  unfold cl
  exact Int.emod_eq_zero_of_dvd (Int.dvd_neg.2 (Int.dvd_of_emod_eq_zero (fl_mod (-t) n)))
theorem fl_le_iff {n t f : Int} (h : 1 ≤ n) : fl f n ≤ t ↔ f < fl t n + n := by
  have a := fl_bd t n h
  have b := fl_bd f n h
  constructor
  · intro h1
    rcases Int.lt_or_le (fl t n) (fl f n) with h2 | h2
    · have := mult_lt h (fl_mod t n) (fl_mod f n) h2; omega
    · omega
  · intro h1
    rcases Int.lt_or_le (fl t n) (fl f n) with h2 | h2
    · have := mult_lt h (fl_mod t n) (fl_mod f n) h2; omega
    · omega
theorem lt_cl_iff {n t u : Int} (h : 1 ≤ n) : t < cl u n ↔ fl t n < u := by
  have a := fl_bd t n h
  have b := cl_bd u n h
  constructor
  · intro h1
    have := mult_lt h (fl_mod t n) (cl_mod u n) (by omega); omega
  · intro h1
    have := mult_lt h (fl_mod t n) (cl_mod u n) (by omega); omega
theorem cl_le_iff {n t f : Int} (h : 1 ≤ n) : cl f n ≤ t ↔ f ≤ fl t n := by
  have a := fl_bd t n h
  have b := cl_bd f n h
  constructor
  · intro h1
    rcases Int.lt_or_le (fl t n) (cl f n) with h2 | h2
    · have := mult_lt h (fl_mod t n) (cl_mod f n) h2; omega
    · omega
  · intro h1
    rcases Int.lt_or_le (fl t n) (cl f n) with h2 | h2
    · have := mult_lt h (fl_mod t n) (cl_mod f n) h2; omega
    · omega
theorem lt_fl_iff {n t u : Int} (h : 1 ≤ n) : t < fl u n ↔ fl t n + n ≤ u := by
  have a := fl_bd t n h
  have b := fl_bd u n h
  constructor
  · intro h1
    have := mult_lt h (fl_mod t n) (fl_mod u n) (by omega); omega
  · intro h1
    rcases Int.lt_or_le (fl t n) (fl u n) with h2 | h2
    · have := mult_lt h (fl_mod t n) (fl_mod u n) h2; omega
    · have := mult_lt h (fl_mod u n) (show (fl t n + n) % n = 0 by rw [Int.add_emod_right]; exact fl_mod t n) (by omega); omega
theorem out_val {f u n : Int} (h : 1 ≤ n) (z : wrg n [f, u] = 0) : (f < u → OutF f u n = fl f n ∧ OutT f u n = cl u n) ∧ (u ≤ f → OutF f u n = 0 ∧ OutT f u n = 0) := by
  have a := fl_bd f n h
  have b := cl_bd u n h
  refine ⟨fun h1 => ?_, fun h1 => ?_⟩
  · have c : wrg n [f, u] = 0 ∧ f < u := ⟨z, h1⟩
    have d : ¬ cl u n ≤ fl f n := by omega
    simp only [OutF, OutT, gF, gT, if_pos c, if_neg d, and_self]
  · have c : ¬ (wrg n [f, u] = 0 ∧ f < u) := by omega
    simp only [OutF, OutT, if_neg c, and_self]
theorem in_val {f u n : Int} (h : 1 ≤ n) (z : wrg n [f, u] = 0) : (f < u ∧ cl f n < fl u n → InF f u n = cl f n ∧ InT f u n = fl u n) ∧ (¬ (f < u ∧ cl f n < fl u n) → InF f u n = 0 ∧ InT f u n = 0) := by
  refine ⟨fun h1 => ?_, fun h1 => ?_⟩
  · have c : wrg n [f, u] = 0 ∧ f < u := ⟨z, h1.1⟩
    have d : ¬ fl u n ≤ cl f n := by omega
    simp only [InF, InT, gF, gT, if_pos c, if_neg d, and_self]
  · by_cases h2 : f < u
    · have d : fl u n ≤ cl f n := by omega
      simp only [InF, InT, gF, gT, if_pos d, ite_self, and_self]
    · have c : ¬ (wrg n [f, u] = 0 ∧ f < u) := by omega
      simp only [InF, InT, if_neg c, and_self]
/-- all that SpanWhole asks, of plain numbers: o = (o1, o2) is Out, i = (i1, i2) is In, (A, A + n) the bucket of t -/
theorem whole_law {f u n t : Int} (h : 1 ≤ n) {o1 o2 i1 i2 A : Int} (hA : A = fl t n)
    (ho : (f < u ∧ o1 = fl f n ∧ o2 = cl u n) ∨ (u ≤ f ∧ o1 = 0 ∧ o2 = 0))
    (hi : (f < u ∧ cl f n < fl u n ∧ i1 = cl f n ∧ i2 = fl u n) ∨ (¬ (f < u ∧ cl f n < fl u n) ∧ i1 = 0 ∧ i2 = 0)) :
    decide (o2 ≤ o1) = decide (u ≤ f) ∧
    decide (o1 ≤ t ∧ t < o2) = !decide (andT A (A + n) f u ≤ andF A (A + n) f u) ∧
    (decide (i1 ≤ t ∧ t < i2) = (!decide (u ≤ f) && (decide (andF A (A + n) f u = A) && decide (andT A (A + n) f u = A + n)))) ∧
    andF i1 i2 f u = i1 ∧ andT i1 i2 f u = i2 ∧
    andF f u o1 o2 = andF f u f u ∧ andT f u o1 o2 = andT f u f u := by
  have a1 := fl_bd f n h
  have a2 := cl_bd u n h
  have a3 := fl_bd u n h
  have a4 := cl_bd f n h
  have a5 := fl_bd t n h
  have l1 := fl_le_iff (n := n) (t := t) (f := f) h
  have l2 := lt_cl_iff (n := n) (t := t) (u := u) h
  have l3 := cl_le_iff (n := n) (t := t) (f := f) h
  have l4 := lt_fl_iff (n := n) (t := t) (u := u) h
  rw [← hA] at l1 l2 l3 l4 a5
  have c1 := and_cases A (A + n) f u
  refine ⟨?_, ?_, ?_, ?_, ?_, ?_, ?_⟩
  · rcases ho with ⟨p, rfl, rfl⟩ | ⟨p, rfl, rfl⟩ <;> (apply decide_eq_decide.2; omega)
  · rw [← decide_not]; apply decide_eq_decide.2
    rcases ho with ⟨p, rfl, rfl⟩ | ⟨p, rfl, rfl⟩ <;> rcases c1 with ⟨x, y, z⟩ | ⟨x, y, z⟩ <;> rw [x, y] <;> omega
  · rw [← decide_not, ← Bool.decide_and, ← Bool.decide_and]; apply decide_eq_decide.2
    rcases hi with ⟨p, q, rfl, rfl⟩ | ⟨p, rfl, rfl⟩ <;> rcases c1 with ⟨x, y, z⟩ | ⟨x, y, z⟩ <;> rw [x, y] <;> omega
  · rcases hi with ⟨p, q, rfl, rfl⟩ | ⟨p, rfl, rfl⟩ <;> unfold andF <;> split <;> omega
  · rcases hi with ⟨p, q, rfl, rfl⟩ | ⟨p, rfl, rfl⟩ <;> unfold andT <;> split <;> omega
  · rcases ho with ⟨p, rfl, rfl⟩ | ⟨p, rfl, rfl⟩ <;> unfold andF <;> split <;> split <;> omega
  · rcases ho with ⟨p, rfl, rfl⟩ | ⟨p, rfl, rfl⟩ <;> unfold andT <;> split <;> split <;> omega
end Go.Proofs.Ytdijmfnjjcknaaa

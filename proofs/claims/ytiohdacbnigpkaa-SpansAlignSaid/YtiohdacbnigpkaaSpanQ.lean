/- Plain laws on buckets and on spans made whole, those of layer 9 that layer 10 asks. No program in sight (but for what And, Out, In compute). Cut out of layer 9's texts. -/
import Derived.Test.YtiohdacbnigpkaaSpanP
namespace Go.Proofs.Ytiohdacbnigpkaa
set_option linter.unusedVariables false

theorem cl_eq (t n : Int) (h : 1 ≤ n) : cl t n = if t = fl t n then t else fl t n + n := by
  have b := mod_bd t n h
  have b2 := mod_bd (-t) n h
  have e : (t % n + (-t) % n) % n = 0 := by rw [← Int.add_emod, Int.add_right_neg, Int.zero_emod]
  have e2 : t % n + (-t) % n = 0 ∨ t % n + (-t) % n = n := by
    rcases Int.lt_or_le (t % n + (-t) % n) n with h1 | h1
    · left; rw [Int.emod_eq_of_lt (by omega) h1] at e; exact e
    · right
      have : (t % n + (-t) % n - n) % n = 0 := by rw [Int.sub_emod_right]; exact e
      rw [Int.emod_eq_of_lt (by omega) (by omega)] at this; omega
  unfold cl fl
  split <;> omega
theorem wrg_ok {n t : Int} (h1 : 1 ≤ n) (h2 : n ≤ 1099511627776) (h : bnd t) : wrg n [t] = 0 := by
  unfold wrg; rw [if_neg (by omega), if_pos (by simpa using h)]
theorem wrg_ok2 {n t u : Int} (h1 : 1 ≤ n) (h2 : n ≤ 1099511627776) (h : bnd t) (h' : bnd u) : wrg n [t, u] = 0 := by
  unfold wrg; rw [if_neg (by omega), if_pos (by simpa using ⟨h, h'⟩)]

theorem fl_mod (t n : Int) : fl t n % n = 0 := by
  unfold fl; rw [Int.sub_emod, Int.emod_emod, Int.sub_self, Int.zero_emod]
theorem fl_tmod (t n : Int) : (fl t n).tmod n = 0 := by
  rw [← Int.dvd_iff_tmod_eq_zero]; exact Int.dvd_of_emod_eq_zero (fl_mod t n)
/-- multiples of n that are less than n apart are the same -/
theorem mult_eq {n a b : Int} (h : 1 ≤ n) (ha : a % n = 0) (hb : b % n = 0) (h1 : a < b + n) (h2 : b < a + n) : a = b := by
  have e : (a - b) % n = 0 := by rw [Int.sub_emod, ha, hb]; rfl
  rcases Int.lt_or_le (a - b) 0 with h3 | h3
  · have e2 : (b - a) % n = 0 := by rw [Int.sub_emod, ha, hb]; rfl
    rw [Int.emod_eq_of_lt (by omega) (by omega)] at e2; omega
  · rw [Int.emod_eq_of_lt h3 (by omega)] at e; omega
/-- multiples of n: less is less by n -/
theorem mult_lt {n a b : Int} (h : 1 ≤ n) (ha : a % n = 0) (hb : b % n = 0) (h1 : a < b) : a + n ≤ b := by
  rcases Int.lt_or_le b (a + n) with h2 | h2
  · have := mult_eq h ha hb (by omega) h2; omega
  · exact h2
theorem fl_has (t n u : Int) (h : 1 ≤ n) : (fl t n ≤ u ∧ u < fl t n + n) ↔ fl t n = fl u n := by
  have a := fl_bd t n h
  have b := fl_bd u n h
  constructor
  · intro ⟨h1, h2⟩
    exact mult_eq h (fl_mod t n) (fl_mod u n) (by omega) (by omega)
  · intro e; omega
theorem fl_apart (t n u : Int) (h : 1 ≤ n) (hne : fl t n ≠ fl u n) : andF (fl t n) (fl t n + n) (fl u n) (fl u n + n) = 0 ∧ andT (fl t n) (fl t n + n) (fl u n) (fl u n + n) = 0 := by
  have : min (fl t n + n) (fl u n + n) ≤ max (fl t n) (fl u n) := by
    rcases Int.lt_or_le (fl t n) (fl u n) with h1 | h1
    · have := mult_lt h (fl_mod t n) (fl_mod u n) h1; omega
    · have := mult_lt h (fl_mod u n) (fl_mod t n) (show fl u n < fl t n by omega); omega
  unfold andF andT; rw [if_pos this, if_pos this]; exact ⟨rfl, rfl⟩
theorem mod_mul {c n k : Int} (h : c % (n * k) = 0) : c % n = 0 :=
  Int.emod_eq_zero_of_dvd (Int.dvd_trans (Int.dvd_mul_right n k) (Int.dvd_of_emod_eq_zero h))
theorem fl_of_mult {c n : Int} (h : c % n = 0) : fl c n = c := by unfold fl; omega
theorem cl_of_mult {c n : Int} (h : c % n = 0) : cl c n = c := by
  have e : (-c) % n = 0 := Int.emod_eq_zero_of_dvd (Int.dvd_neg.2 (Int.dvd_of_emod_eq_zero h))
  unfold cl fl; omega
/-- a bucket of a multiple of the width -/
theorem big_bucket (t n k : Int) (h : 1 ≤ n) (hk : 1 ≤ n * k) :
    fl (fl t (n * k)) n = fl t (n * k) ∧ cl (fl t (n * k) + n * k) n = fl t (n * k) + n * k ∧ cl (fl t (n * k)) n = fl t (n * k) ∧ fl (fl t (n * k) + n * k) n = fl t (n * k) + n * k ∧ fl t (n * k) ≤ fl t n ∧ fl t n + n ≤ fl t (n * k) + n * k := by
  have a := fl_bd t n h
  have b := fl_bd t (n * k) hk
  have m1 := fl_mod t (n * k)
  have m2 : (fl t (n * k) + n * k) % (n * k) = 0 := by rw [Int.add_emod_right]; exact m1
  have m3 := fl_mod t n
  refine ⟨fl_of_mult (mod_mul m1), cl_of_mult (mod_mul m2), cl_of_mult (mod_mul m1), fl_of_mult (mod_mul m2), ?_, ?_⟩
  · rcases Int.lt_or_le (fl t n) (fl t (n * k)) with h1 | h1
    · have := mult_lt h m3 (mod_mul m1) h1; omega
    · exact h1
  · exact mult_lt h m3 (mod_mul m2) (by omega)

theorem cl_mod (t n : Int) : cl t n % n = 0 := by
  unfold cl
  exact Int.emod_eq_zero_of_dvd (Int.dvd_neg.2 (Int.dvd_of_emod_eq_zero (fl_mod (-t) n)))
theorem fl_le_iff {n t f : Int} (h : 1 ≤ n) : fl f n ≤ t ↔ f < fl t n + n := by
  have a := fl_bd t n h
  have b := fl_bd f n h
  constructor
  · intro h1
    rcases Int.lt_or_le (fl t n) (fl f n) with h2 | h2
    · have := mult_lt h (fl_mod t n) (fl_mod f n) h2; omega
    · omega
  · intro h1
    rcases Int.lt_or_le (fl t n) (fl f n) with h2 | h2
    · have := mult_lt h (fl_mod t n) (fl_mod f n) h2; omega
    · omega
theorem lt_cl_iff {n t u : Int} (h : 1 ≤ n) : t < cl u n ↔ fl t n < u := by
  have a := fl_bd t n h
  have b := cl_bd u n h
  constructor
  · intro h1
    have := mult_lt h (fl_mod t n) (cl_mod u n) (by omega); omega
  · intro h1
    have := mult_lt h (fl_mod t n) (cl_mod u n) (by omega); omega
theorem cl_le_iff {n t f : Int} (h : 1 ≤ n) : cl f n ≤ t ↔ f ≤ fl t n := by
  have a := fl_bd t n h
  have b := cl_bd f n h
  constructor
  · intro h1
    rcases Int.lt_or_le (fl t n) (cl f n) with h2 | h2
    · have := mult_lt h (fl_mod t n) (cl_mod f n) h2; omega
    · omega
  · intro h1
    rcases Int.lt_or_le (fl t n) (cl f n) with h2 | h2
    · have := mult_lt h (fl_mod t n) (cl_mod f n) h2; omega
    · omega
theorem lt_fl_iff {n t u : Int} (h : 1 ≤ n) : t < fl u n ↔ fl t n + n ≤ u := by
  have a := fl_bd t n h
  have b := fl_bd u n h
  constructor
  · intro h1
    have := mult_lt h (fl_mod t n) (fl_mod u n) (by omega); omega
  · intro h1
    rcases Int.lt_or_le (fl t n) (fl u n) with h2 | h2
    · have := mult_lt h (fl_mod t n) (fl_mod u n) h2; omega
    · have := mult_lt h (fl_mod u n) (show (fl t n + n) % n = 0 by rw [Int.add_emod_right]; exact fl_mod t n) (by omega); omega
theorem out_val {f u n : Int} (h : 1 ≤ n) (z : wrg n [f, u] = 0) : (f < u → OutF f u n = fl f n ∧ OutT f u n = cl u n) ∧ (u ≤ f → OutF f u n = 0 ∧ OutT f u n = 0) := by
  have a := fl_bd f n h
  have b := cl_bd u n h
  refine ⟨fun h1 => ?_, fun h1 => ?_⟩
  · have c : wrg n [f, u] = 0 ∧ f < u := ⟨z, h1⟩
    have d : ¬ cl u n ≤ fl f n := by omega
    simp only [OutF, OutT, gF, gT, if_pos c, if_neg d, and_self]
  · have c : ¬ (wrg n [f, u] = 0 ∧ f < u) := by omega
    simp only [OutF, OutT, if_neg c, and_self]
theorem in_val {f u n : Int} (h : 1 ≤ n) (z : wrg n [f, u] = 0) : (f < u ∧ cl f n < fl u n → InF f u n = cl f n ∧ InT f u n = fl u n) ∧ (¬ (f < u ∧ cl f n < fl u n) → InF f u n = 0 ∧ InT f u n = 0) := by
  refine ⟨fun h1 => ?_, fun h1 => ?_⟩
  · have c : wrg n [f, u] = 0 ∧ f < u := ⟨z, h1.1⟩
    have d : ¬ fl u n ≤ cl f n := by omega
    simp only [InF, InT, gF, gT, if_pos c, if_neg d, and_self]
  · by_cases h2 : f < u
    · have d : fl u n ≤ cl f n := by omega
      simp only [InF, InT, gF, gT, if_pos d, ite_self, and_self]
    · have c : ¬ (wrg n [f, u] = 0 ∧ f < u) := by omega
      simp only [InF, InT, if_neg c, and_self]
end Go.Proofs.Ytiohdacbnigpkaa

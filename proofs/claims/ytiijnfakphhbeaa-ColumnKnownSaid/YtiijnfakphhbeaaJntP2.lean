/- Plain laws of layer 5: the reference's way of changes. No program in sight. -/
import Derived.Test.YtiijnfakphhbeaaJntP
namespace Go.Proofs.Ytiijnfakphhbeaa.In
open Go.RowKit
set_option linter.unusedVariables false

/-- a number as one that goes round -/
def toU (c : Int) : Int := c % 18446744073709551616
theorem u64_bd2 (c : Int) : 0 ≤ toU c ∧ toU c < 18446744073709551616 := by unfold toU; omega
theorem u64_back {c : Int} (h : i64 c) : wrap64 (toU c) = c := by unfold i64 at h; unfold toU wrap64; omega
theorem u64_inj {a b : Int} (ha : i64 a) (hb : i64 b) (h : toU a = toU b) : a = b := by
  have h1 := u64_back ha; have h2 := u64_back hb; rw [h] at h1; omega
/-- where a row of numbers has come to -/
def cst (a s : Int) : List Int → Int × Int
  | [] => (a, s)
  | v :: l => cst v (wrap64 (v - a)) l
theorem cst_snoc : ∀ (l : List Int) (a s v : Int), cst a s (l ++ [v]) = (v, wrap64 (v - (cst a s l).1))
  | [], a, s, v => rfl
  | x :: l, a, s, v => by simp [cst, cst_snoc l]
theorem chg_snoc : ∀ (l : List Int) (a s v : Int), chg a s (l ++ [v]) = chg a s l ++ [wrap64 (wrap64 (v - (cst a s l).1) - (cst a s l).2)]
  | [], a, s, v => rfl
  | x :: l, a, s, v => by simp [chg, cst, chg_snoc l]
theorem take_snoc (l : List Int) (k : Nat) (h : k < l.length) : l.take (k + 1) = l.take k ++ [l[k]] := by
  rw [List.take_succ_eq_append_getElem h]
theorem step0 (v : Int) : toU (wrap64 (wrap64 (v - 0) - 0)) = toU v := by unfold toU wrap64; omega
theorem step1 (v a : Int) : toU (wrap64 (wrap64 (v - a) - wrap64 (a - 0))) = toU (toU (toU v - toU a) - toU a) := by unfold toU wrap64; omega
theorem step2 (v a b : Int) : toU (wrap64 (wrap64 (v - a) - wrap64 (a - b))) = toU (toU (toU v - toU a) - toU (toU a - toU b)) := by unfold toU wrap64; omega
theorem wrapU (x : Int) : IntKind.u64.wrap x = toU x := by rw [IntKind.wrap_u64]; rfl
theorem rl_zero (x y : Int) (l : List Int) : rl 0 x l = rl 0 y l := by
  cases l <;> simp [rl]
/-- a run goes on -/
theorem rl_go {m : Nat} {ch c : Int} {l : List Int} (h : m ≠ 0 → ch = c) : rl m ch (c :: l) = rl (m + 1) c l := by
  simp only [rl]
  rw [if_neg]
  rintro ⟨h1, h2⟩; exact h2 (h h1).symm
/-- a run ends -/
theorem rl_end {m : Nat} {c : Int} (hm : m ≠ 0) (l : List Int) (h : l.head? ≠ some c) : rl m c l = (m, c) :: rl 0 0 l := by
  cases l with
  | nil => simp [rl, hm]
  | cons x l =>
    have hx : x ≠ c := by simpa using h
    simp only [rl]
    rw [if_pos ⟨hm, hx⟩, if_neg (by simp)]
theorem lst_u64 (a s c : Int) : toU (wrap64 (s + c)) = toU (toU s + toU c) ∧ toU (wrap64 (a + wrap64 (s + c))) = toU (toU a + toU (toU s + toU c)) := by
  unfold toU wrap64; omega
end Go.Proofs.Ytiijnfakphhbeaa.In

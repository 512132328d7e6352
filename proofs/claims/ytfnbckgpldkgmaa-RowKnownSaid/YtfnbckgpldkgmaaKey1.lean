/- The walk of key.may (layer 3): it answers mayB. -/
import Derived.Test.YtfnbckgpldkgmaaKeyP
import Derived.Test.YtfnbckgpldkgmaaWord
namespace Go.Proofs.Ytfnbckgpldkgmaa
open Go.RowKit
set_option linter.unusedVariables false
set_option linter.unusedSimpArgs false

theorem isEmpty_dec (t : List UInt8) : t.isEmpty = decide (t = []) := by cases t <;> rfl
theorem mayB_cases (v : V) : mayB v = if v.k = 0 then decide (v.n = 0) && decide (v.t = []) else if v.k = 1 then (decide (v.n = 0) || decide (v.n = 1)) && decide (v.t = []) else if v.k = 2 then decide (v.t = []) else if v.k = 3 then decide (v.n = 0) else false := rfl

set_option maxRecDepth 100000 in
theorem may_any (v : V) (hk : v.k < 256) (w : World) :
    Calls Try.prog 40 #[va v] w fun e w' => e = .returned (.bool (mayB v)) ∧ Below w.heap.size w w' := by
  obtain ⟨k, n, t⟩ := v
  dsimp only at hk ⊢
  rw [mayB_cases]
  dsimp only
  by_cases h0 : k = 0
  · subst h0
    rw [if_pos rfl]
    clear hk
    go_enter Try.func40, Try.ntmps40
    go_wp2
    go_ret
    exact ⟨rfl, by go_grown⟩
  rw [if_neg h0]
  by_cases h1 : k = 1
  · subst h1
    rw [if_pos rfl]
    clear hk h0
    by_cases hn0 : n = 0
    · subst hn0
      go_enter Try.func40, Try.ntmps40
      go_wp2
      go_ret
      exact ⟨by first | (simp; done) | (simp; exact isEmpty_dec _), by go_grown⟩
    · by_cases hn1 : n = 1
      · subst hn1
        go_enter Try.func40, Try.ntmps40
        go_wp2
        go_ret
        exact ⟨by first | (simp; done) | (simp; exact isEmpty_dec _), by go_grown⟩
      · have e0 : (n == 0) = false := by simpa using hn0
        have e1 : (n == 1) = false := by simpa using hn1
        rw [decide_eq_false hn0, decide_eq_false hn1]
        clear hn0 hn1
        go_enter Try.func40, Try.ntmps40
        go_wp2
        go_ret
        exact ⟨by first | (simp; done) | (simp; exact isEmpty_dec _), by go_grown⟩
  rw [if_neg h1]
  by_cases h2 : k = 2
  · subst h2
    rw [if_pos rfl]
    clear hk h0 h1
    go_enter Try.func40, Try.ntmps40
    go_wp2
    go_ret
    exact ⟨by first | rfl | (simp; done) | (simp; exact isEmpty_dec _), by go_grown⟩
  rw [if_neg h2]
  by_cases h3 : k = 3
  · subst h3
    rw [if_pos rfl]
    clear hk h0 h1 h2
    go_enter Try.func40, Try.ntmps40
    go_wp2
    go_ret
    exact ⟨by first | rfl | (simp; done) | (simp; exact isEmpty_dec _), by go_grown⟩
  rw [if_neg h3]
  have e0 : ((k : Int) == 0) = false := by simp; omega
  have e1 : ((k : Int) == 1) = false := by simp; omega
  have e2 : ((k : Int) == 2) = false := by simp; omega
  have e3 : ((k : Int) == 3) = false := by simp; omega
  clear h0 h1 h2 h3
  go_enter Try.func40, Try.ntmps40
  go_wp2
  go_ret
  exact ⟨by first | rfl | (simp; done) | (simp; exact isEmpty_dec _), by go_grown⟩
end Go.Proofs.Ytfnbckgpldkgmaa

/- The contracts of layer 10 as the laws' walks take them: slices that are read in the world of the call; lists by name. No condition but those named. -/
import Derived.Test.YtiohdacbnigpkaaSetL2
namespace Go.Proofs.Ytiohdacbnigpkaa
open Go.RowKit Go.Maps
set_option linter.unusedVariables false

abbrev RdS (w : World) (A : Option Addr) (l : List S2) : Prop := Rd w w.heap.size A (scells l)
section
variable {w : World} {A A' : Option Addr} {c c' : Nat} {a b o : List S2} {t n z : Int} {q : Bool}
theorem kOwn (hl : a.length ≤ 1000) (ha : RdS w A a) : Calls Try.prog 13 #[.slice A a.length c] w (RetSs w a) := own_any _ A c a w ha (Nat.le_refl _) (by omega)
theorem kOf (he : o = ofL a) (hl : a.length ≤ 1000) (ha : RdS w A a) : Calls Try.prog 22 #[.slice A a.length c] w (RetSs w o) := by subst he; exact of_any _ A c a w ha (Nat.le_refl _) (by omega)
theorem kOr (he : o = ofL (a ++ b)) (hl : a.length ≤ 1000 ∧ b.length ≤ 1000) (ha : RdS w A a) (hb : RdS w A' b) : Calls Try.prog 21 #[.slice A a.length c, .slice A' b.length c'] w (RetSs w o) := by subst he; exact or_any _ A A' c c' a b w ha hb (Nat.le_refl _) (by omega)
theorem kAnd (he : o = andR a b) (hl : a.length ≤ 1000 ∧ b.length ≤ 1000) (ha : RdS w A a) (hb : RdS w A' b) : Calls Try.prog 18 #[.slice A a.length c, .slice A' b.length c'] w (RetSs w o) := by subst he; exact sAnd_any _ A A' c c' a b w ha hb (Nat.le_refl _) (by omega) (by omega)
theorem kMinus (he : o = minR a b) (hl : a.length ≤ 1000 ∧ b.length ≤ 1000) (ha : RdS w A a) (hb : RdS w A' b) : Calls Try.prog 19 #[.slice A a.length c, .slice A' b.length c'] w (RetSs w o) := by subst he; exact sMinus_any _ A A' c c' a b w ha hb (Nat.le_refl _) (by omega)
theorem kHas (he : q = hasB a t) (hl : a.length ≤ 1000) (ha : RdS w A a) : Calls Try.prog 17 #[.slice A a.length c, .int .i64 t] w fun e w' => e = .returned (.bool q) ∧ Below w.heap.size w w' := by subst he; exact sHas_any _ A c a t w ha (Nat.le_refl _) (by omega)
theorem kSame (he : q = decide (ofL a = ofL b)) (hl : a.length ≤ 1000 ∧ b.length ≤ 1000) (ha : RdS w A a) (hb : RdS w A' b) : Calls Try.prog 31 #[.slice A a.length c, .slice A' b.length c'] w fun e w' => e = .returned (.bool q) ∧ Below w.heap.size w w' := by subst he; exact same_any _ A A' c c' a b w ha hb (Nat.le_refl _) (by omega) (by omega)
theorem kOut (he : wholeR (oS n) n a = (o, z)) (hl : a.length ≤ 1000) (ha : RdS w A a) : Calls Try.prog 12 #[.slice A a.length c, .int .i64 n] w (RetSN w o z) := by have := sOut_any _ A c a n w ha (Nat.le_refl _) (by omega); rw [he] at this; exact this
theorem kIn (he : inR n a = (o, z)) (hl : a.length ≤ 1000) (ha : RdS w A a) : Calls Try.prog 14 #[.slice A a.length c, .int .i64 n] w (RetSN w o z) := by have := sIn_any _ A c a n w ha (Nat.le_refl _) (by omega); rw [he] at this; exact this
theorem kEqual (hl : a.length ≤ 1000) (ha : RdS w A a) (hb : RdS w A' a) : Calls Try.prog 20 #[.slice A a.length c, .slice A' a.length c'] w fun e w' => e = .returned (.bool true) ∧ Below w.heap.size w w' := by have := equal_any _ A A' c c' a a w ha hb (Nat.le_refl _) (by unfold maxLen; omega); rw [decide_eq_true rfl] at this; exact this
theorem kForm (hf : formL a) (hl : a.length ≤ 1000) (ha : RdS w A a) : Calls Try.prog 16 #[.slice A a.length c] w fun e w' => e = .returned (.bool true) ∧ Below w.heap.size w w' := form_any _ A c a w hf ha (Nat.le_refl _) (by omega)
/-! ### the reference -/
theorem krOf (he : o = ofL a) (hl : a.length ≤ 1000) (ha : RdS w A a) : Calls Try.prog 26 #[.slice A a.length c] w (RetSs w o) := by subst he; exact rOf_any _ A c a w ha (Nat.le_refl _) (by omega)
theorem krOr (he : o = ofL (a ++ b)) (hl : a.length ≤ 1000 ∧ b.length ≤ 1000) (ha : RdS w A a) (hb : RdS w A' b) : Calls Try.prog 27 #[.slice A a.length c, .slice A' b.length c'] w (RetSs w o) := by subst he; exact rOr_any _ A A' c c' a b w ha hb (Nat.le_refl _) (by omega)
theorem krAnd (he : o = andR a b) (hl : a.length ≤ 1000 ∧ b.length ≤ 1000) (ha : RdS w A a) (hb : RdS w A' b) : Calls Try.prog 28 #[.slice A a.length c, .slice A' b.length c'] w (RetSs w o) := by subst he; exact rAnd_any _ A A' c c' a b w ha hb (Nat.le_refl _) (by omega)
theorem krMinus (he : o = minR a b) (hl : a.length ≤ 1000 ∧ b.length ≤ 1000) (ha : RdS w A a) (hb : RdS w A' b) : Calls Try.prog 29 #[.slice A a.length c, .slice A' b.length c'] w (RetSs w o) := by subst he; exact rMinus_any _ A A' c c' a b w ha hb (Nat.le_refl _) (by omega)
theorem krHas (he : q = hasB a t) (hl : a.length ≤ 1000) (ha : RdS w A a) : Calls Try.prog 30 #[.slice A a.length c, .int .i64 t] w fun e w' => e = .returned (.bool q) ∧ w = w' := by subst he; exact rHas_any _ A c a t w ha (Nat.le_refl _) (by omega)
theorem krSame (he : q = decide (a = b)) (hl : a.length ≤ 1000) (ha : RdS w A a) (hb : RdS w A' b) : Calls Try.prog 25 #[.slice A a.length c, .slice A' b.length c'] w fun e w' => e = .returned (.bool q) ∧ Below w.heap.size w w' := by subst he; exact rSame_any _ A A' c c' a b w ha hb (Nat.le_refl _) (by unfold maxLen; omega)
theorem krOut (he : wholeR (oS n) n a = (o, z)) (hl : a.length ≤ 1000) (ha : RdS w A a) : Calls Try.prog 23 #[.slice A a.length c, .int .i64 n] w (RetSN w o z) := by have := rOut10_any _ A c a n w ha (Nat.le_refl _) (by omega); rw [he] at this; exact this
theorem krIn (he : inR n a = (o, z)) (hl : a.length ≤ 1000) (ha : RdS w A a) : Calls Try.prog 24 #[.slice A a.length c, .int .i64 n] w (RetSN w o z) := by have := rIn10_any _ A c a n w ha (Nat.le_refl _) (by omega); rw [he] at this; exact this
end
end Go.Proofs.Ytiohdacbnigpkaa

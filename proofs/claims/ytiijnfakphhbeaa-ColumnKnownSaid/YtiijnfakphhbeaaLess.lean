/- How values stand: their key bytes in order (plain), and the reference's Less. No condition. -/
import Derived.Test.YtiijnfakphhbeaaKys
namespace Go.Proofs.Ytiijnfakphhbeaa
open Go.RowKit
set_option linter.unusedVariables false
set_option linter.unusedSimpArgs false

abbrev bl := Op.bytesLess
theorem bl_nil (a : List UInt8) : bl a [] = false := by cases a <;> rfl
theorem bl_nc (b : UInt8) (y : List UInt8) : bl [] (b :: y) = true := rfl
theorem bl_cc (a b : UInt8) (x y : List UInt8) : bl (a :: x) (b :: y) = (decide (a < b) || (a == b && bl x y)) := rfl
theorem bl_eq (a : UInt8) (x y : List UInt8) : bl (a :: x) (a :: y) = bl x y := by rw [bl_cc]; simp
theorem bl_ne {a b : UInt8} (h : a ≠ b) (x y : List UInt8) : bl (a :: x) (b :: y) = decide (a < b) := by rw [bl_cc]; simp [h]
theorem bl_pre : ∀ (p x y : List UInt8), bl (p ++ x) (p ++ y) = bl x y
  | [], x, y => rfl
  | a :: p, x, y => by rw [List.cons_append, List.cons_append, bl_eq, bl_pre p x y]
theorem bl_self : ∀ x : List UInt8, bl x x = false
  | [] => rfl
  | a :: x => by rw [bl_eq, bl_self x]
theorem u8_eq {a b : Nat} (ha : a < 256) (hb : b < 256) (h : a.toUInt8 = b.toUInt8) : a = b := by
  have := congrArg UInt8.toNat h
  rwa [toNat_toUInt8 ha, toNat_toUInt8 hb] at this
theorem u8_lt {a b : Nat} (ha : a < 256) (hb : b < 256) : (a.toUInt8 < b.toUInt8) ↔ a < b := by
  rw [UInt8.lt_iff_toNat_lt, toNat_toUInt8 ha, toNat_toUInt8 hb]
theorem be_less : ∀ (k u u' : Nat) (s t : List UInt8), u < 256 ^ k → u' < 256 ^ k → u ≠ u' → bl (be k u ++ s) (be k u' ++ t) = decide (u < u')
  | 0, u, u', s, t, h, h', hne => by simp at h h'; omega
  | k + 1, u, u', s, t, h, h', hne => by
    have hp : 0 < 256 ^ k := Nat.pow_pos (by omega)
    rw [Nat.pow_succ, Nat.mul_comm] at h h'
    have hq : u / 256 ^ k < 256 := Nat.div_lt_of_lt_mul (by rwa [Nat.mul_comm] at h)
    have hq' : u' / 256 ^ k < 256 := Nat.div_lt_of_lt_mul (by rwa [Nat.mul_comm] at h')
    have hu := Nat.div_add_mod u (256 ^ k)
    have hu' := Nat.div_add_mod u' (256 ^ k)
    have hm := Nat.mod_lt u hp
    have hm' := Nat.mod_lt u' hp
    have hbe : ∀ j x, j ≤ k → be j x = be j (x % 256 ^ k) := fun j => by
      induction j with
      | zero => intro x _; rfl
      | succ j ih =>
        intro x hj
        have e : x / 256 ^ j % 256 = x % 256 ^ k / 256 ^ j % 256 := by
          obtain ⟨d, hd⟩ : ∃ d, k = j + 1 + d := ⟨k - (j + 1), by omega⟩
          have h1 := Nat.div_add_mod x (256 ^ k)
          have e1 : 256 ^ k = 256 ^ j * (256 * 256 ^ d) := by rw [hd, Nat.pow_add, Nat.pow_succ, Nat.mul_assoc]
          have e2 : x / 256 ^ j = 256 * (256 ^ d * (x / 256 ^ k)) + x % 256 ^ k / 256 ^ j := by
            conv => lhs; rw [← h1]
            rw [show 256 ^ k * (x / 256 ^ k) = 256 ^ j * (256 * (256 ^ d * (x / 256 ^ k))) by rw [e1]; simp [Nat.mul_assoc]]
            rw [Nat.mul_add_div (Nat.pow_pos (by omega))]
          rw [e2, Nat.mul_add_mod]
        simp only [be]
        rw [e, ih x (by omega)]
    simp only [be, List.cons_append]
    rw [Nat.mod_eq_of_lt hq, Nat.mod_eq_of_lt hq']
    by_cases he : u / 256 ^ k = u' / 256 ^ k
    · rw [he, bl_eq, hbe k u (Nat.le_refl _), hbe k u' (Nat.le_refl _)]
      rw [be_less k _ _ s t hm hm' (fun e => hne (by rw [← hu, ← hu', he, e]))]
      rw [← hu, ← hu', he]
      simp
    · rw [bl_ne (fun e => he (u8_eq hq hq' e))]
      apply decide_eq_decide.2
      rw [u8_lt hq hq']
      constructor
      · intro hlt
        have : 256 ^ k * (u / 256 ^ k + 1) ≤ 256 ^ k * (u' / 256 ^ k) := Nat.mul_le_mul_left _ hlt
        rw [Nat.mul_add] at this
        omega
      · intro hlt
        rcases Nat.lt_or_ge (u / 256 ^ k) (u' / 256 ^ k) with hx | hx
        · exact hx
        · have : 256 ^ k * (u' / 256 ^ k + 1) ≤ 256 ^ k * (u / 256 ^ k) := Nat.mul_le_mul_left _ (by omega)
          rw [Nat.mul_add] at this
          omega
theorem esc_nz (c : UInt8) (t : List UInt8) (h : c ≠ 0) : esc (c :: t) = c :: esc t := by simp [esc, h]
theorem esc_z (t : List UInt8) : esc (0 :: t) = 0 :: 255 :: esc t := rfl
theorem u8_pos {c : UInt8} (h : c ≠ 0) : (0 : UInt8) < c := by
  rw [UInt8.lt_iff_toNat_lt]
  have : c.toNat ≠ 0 := fun e => h (UInt8.toNat_inj.1 e)
  show 0 < c.toNat
  omega
theorem u8_npos {c : UInt8} : ¬ c < (0 : UInt8) := by
  rw [UInt8.lt_iff_toNat_lt]
  show ¬ c.toNat < 0
  omega
theorem esc_less : ∀ (t t' s s' : List UInt8), t ≠ t' → bl (esc t ++ 0 :: 1 :: s) (esc t' ++ 0 :: 1 :: s') = bl t t'
  | [], [], s, s', h => absurd rfl h
  | [], c :: t', s, s', h => by
    by_cases hc : c = 0
    · subst hc; rw [esc_z]; simp only [esc, List.nil_append, List.cons_append]; rw [bl_eq, bl_ne (by decide)]; rfl
    · rw [esc_nz c t' hc]; simp only [esc, List.nil_append, List.cons_append]; rw [bl_ne (Ne.symm hc), bl_nc]; simpa using u8_pos hc
  | c :: t, [], s, s', h => by
    by_cases hc : c = 0
    · subst hc; rw [esc_z]; simp only [esc, List.nil_append, List.cons_append]; rw [bl_eq, bl_ne (by decide)]; rfl
    · rw [esc_nz c t hc]; simp only [esc, List.nil_append, List.cons_append]; rw [bl_ne hc, bl_nil]; simp
  | c :: t, c' :: t', s, s', h => by
    by_cases he : c = c'
    · subst he
      have hne : t ≠ t' := fun e => h (by rw [e])
      have ih := esc_less t t' s s' hne
      by_cases hc : c = 0
      · subst hc; rw [esc_z, esc_z]; simp only [List.cons_append]; rw [bl_eq, bl_eq, bl_eq, ih]
      · rw [esc_nz c t hc, esc_nz c t' hc]; simp only [List.cons_append]; rw [bl_eq, bl_eq, ih]
    · rw [bl_ne he]
      by_cases hc : c = 0
      · subst hc
        rw [esc_z, esc_nz c' t' (Ne.symm he)]; simp only [List.cons_append]; rw [bl_ne he]
      · by_cases hc' : c' = 0
        · subst hc'
          rw [esc_z, esc_nz c t hc]; simp only [List.cons_append]; rw [bl_ne he]
        · rw [esc_nz c t hc, esc_nz c' t' hc']; simp only [List.cons_append]; rw [bl_ne he]
def good (v : V) : Prop := mayB v = true ∧ i64r v.n
theorem good_k {v : V} (h : mayB v = true) : (v.k = 0 ∧ v.n = 0 ∧ v.t = []) ∨ (v.k = 1 ∧ (v.n = 0 ∨ v.n = 1) ∧ v.t = []) ∨ (v.k = 2 ∧ v.t = []) ∨ (v.k = 3 ∧ v.n = 0) := by
  unfold mayB at h
  split at h
  · simp at h; simp [*]
  split at h
  · simp at h; simp [*]
  split at h
  · simp at h; simp [*]
  split at h
  · simp at h; simp [*]
  · cases h
theorem toN (n : Int) (h : i64r n) : (n + 9223372036854775808).toNat < 256 ^ 8 := by unfold i64r at h; omega
def lessV (x y : V) : Bool := if x.k = y.k then (if x.k = 3 then Op.bytesLess x.t y.t else decide (x.n < y.n)) else decide (x.k < y.k)
theorem kone_less (v v' : V) (s t : List UInt8) (h : good v) (h' : good v') (hne : v ≠ v') : bl (kone v ++ s) (kone v' ++ t) = lessV v v' := by
  obtain ⟨hm, hn⟩ := h
  obtain ⟨hm', hn'⟩ := h'
  obtain ⟨k, n, x⟩ := v
  obtain ⟨k', n', x'⟩ := v'
  have g := good_k hm
  have g' := good_k hm'
  dsimp only at g g' hn hn'
  unfold lessV
  dsimp only
  rcases g with ⟨rfl, rfl, rfl⟩ | ⟨rfl, rfl | rfl, rfl⟩ | ⟨rfl, rfl⟩ | ⟨rfl, rfl⟩ <;> rcases g' with ⟨rfl, rfl, rfl⟩ | ⟨rfl, rfl | rfl, rfl⟩ | ⟨rfl, rfl⟩ | ⟨rfl, rfl⟩ <;>
    first
    | exact absurd rfl hne
    | rfl
    | skip
  · have hnn : n ≠ n' := fun e => hne (by rw [e])
    show bl (3 :: (be 8 (n + 9223372036854775808).toNat ++ s)) (3 :: (be 8 (n' + 9223372036854775808).toNat ++ t)) = decide (n < n')
    rw [bl_eq, be_less 8 _ _ _ _ (toN n hn) (toN n' hn') (fun e => hnn (by unfold i64r at hn hn'; omega))]
    apply decide_eq_decide.2
    unfold i64r at hn hn'
    omega
  · have hx : x ≠ x' := fun e => hne (by rw [e])
    show bl (4 :: ((esc x ++ [0, 1]) ++ s)) (4 :: ((esc x' ++ [0, 1]) ++ t)) = bl x x'
    rw [bl_eq, List.append_assoc, List.append_assoc]
    exact esc_less x x' s t hx
set_option maxRecDepth 100000 in
theorem Less_any (x y : V) (w : World) :
    Calls Try.prog 22 #[va x, va y] w fun e w' => e = .returned (.bool (lessV x y)) ∧ Below w.heap.size w w' := by
  obtain ⟨a, b, c⟩ := x
  obtain ⟨a', b', c'⟩ := y
  unfold lessV
  dsimp only
  by_cases h : a = a'
  · subst h
    rw [if_pos rfl]
    by_cases h3 : a = 3
    · subst h3
      rw [if_pos rfl]
      go_enter Try.func22, Try.ntmps22
      go_wp2
      go_ret
      exact ⟨rfl, by go_grown⟩
    · rw [if_neg h3]
      have hI : ((a : Int) == 3) = false := by simp; omega
      clear h3
      go_enter Try.func22, Try.ntmps22
      go_wp2
      go_ret
      exact ⟨rfl, by go_grown⟩
  · rw [if_neg h]
    have hI : ((a : Int) != (a' : Int)) = true := by simp; omega
    clear h
    go_enter Try.func22, Try.ntmps22
    go_wp2
    go_ret
    exact ⟨by simp, by go_grown⟩
theorem less_same {v : V} : lessV v v = false := by
  unfold lessV; rw [if_pos rfl]; split
  · exact bl_self _
  · simp
/-- what the program compares -/
def lessB (a b : V) : Bool := bl (kapp [] [a]).1 (kapp [] [b]).1
theorem lessB_eq {a b : V} (ha : good a) (hb : good b) : lessB a b = lessV a b := by
  have h : ∀ v : V, good v → (kapp [] [v]).1 = kone v := fun v h => by unfold kapp; simp [h.1]
  unfold lessB
  rw [h a ha, h b hb]
  by_cases he : a = b
  · subst he; rw [bl_self, less_same]
  · have := kone_less a b [] [] ha hb he
    rwa [List.append_nil, List.append_nil] at this
end Go.Proofs.Ytiijnfakphhbeaa

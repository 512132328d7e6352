/- Plain laws of layer 3: rows stand in the order of their bytes; bytes read back. No program in sight. -/
import Derived.Test.YtdbhbfpfcdklmaaKeyL1
namespace Go.Proofs.Ytdbhbfpfcdklmaa
open Go.RowKit
set_option linter.unusedVariables false
set_option linter.unusedSimpArgs false

abbrev bl := Op.bytesLess
abbrev F (l : List V) : List UInt8 := l.flatMap kone
theorem bl_nil (a : List UInt8) : bl a [] = false := by cases a <;> rfl
theorem bl_nc (b : UInt8) (y : List UInt8) : bl [] (b :: y) = true := rfl
theorem bl_cc (a b : UInt8) (x y : List UInt8) : bl (a :: x) (b :: y) = (decide (a < b) || (a == b && bl x y)) := rfl
theorem bl_eq (a : UInt8) (x y : List UInt8) : bl (a :: x) (a :: y) = bl x y := by rw [bl_cc]; simp
theorem bl_ne {a b : UInt8} (h : a ≠ b) (x y : List UInt8) : bl (a :: x) (b :: y) = decide (a < b) := by rw [bl_cc]; simp [h]
theorem bl_pre : ∀ (p x y : List UInt8), bl (p ++ x) (p ++ y) = bl x y
  | [], x, y => rfl
  | a :: p, x, y => by rw [List.cons_append, List.cons_append, bl_eq, bl_pre p x y]
theorem bl_self : ∀ x : List UInt8, bl x x = false
  | [] => rfl
  | a :: x => by rw [bl_eq, bl_self x]

theorem u8_eq {a b : Nat} (ha : a < 256) (hb : b < 256) (h : a.toUInt8 = b.toUInt8) : a = b := by
  have := congrArg UInt8.toNat h
  rwa [toNat_toUInt8 ha, toNat_toUInt8 hb] at this
theorem u8_lt {a b : Nat} (ha : a < 256) (hb : b < 256) : (a.toUInt8 < b.toUInt8) ↔ a < b := by
  rw [UInt8.lt_iff_toNat_lt, toNat_toUInt8 ha, toNat_toUInt8 hb]

/-! ### numbers -/
theorem be_less : ∀ (k u u' : Nat) (s t : List UInt8), u < 256 ^ k → u' < 256 ^ k → u ≠ u' → bl (be k u ++ s) (be k u' ++ t) = decide (u < u')
  | 0, u, u', s, t, h, h', hne => by simp at h h'; omega
  | k + 1, u, u', s, t, h, h', hne => by
    have hp : 0 < 256 ^ k := Nat.pow_pos (by omega)
    rw [Nat.pow_succ, Nat.mul_comm] at h h'
    have hq : u / 256 ^ k < 256 := Nat.div_lt_of_lt_mul (by rwa [Nat.mul_comm] at h)
    have hq' : u' / 256 ^ k < 256 := Nat.div_lt_of_lt_mul (by rwa [Nat.mul_comm] at h')
    have hu := Nat.div_add_mod u (256 ^ k)
    have hu' := Nat.div_add_mod u' (256 ^ k)
    have hm := Nat.mod_lt u hp
    have hm' := Nat.mod_lt u' hp
    have hbe : ∀ j x, j ≤ k → be j x = be j (x % 256 ^ k) := fun j => by
      induction j with
      | zero => intro x _; rfl
      | succ j ih =>
        intro x hj
        have e : x / 256 ^ j % 256 = x % 256 ^ k / 256 ^ j % 256 := by
          obtain ⟨d, hd⟩ : ∃ d, k = j + 1 + d := ⟨k - (j + 1), by omega⟩
          have h1 := Nat.div_add_mod x (256 ^ k)
          have e1 : 256 ^ k = 256 ^ j * (256 * 256 ^ d) := by rw [hd, Nat.pow_add, Nat.pow_succ, Nat.mul_assoc]
          have e2 : x / 256 ^ j = 256 * (256 ^ d * (x / 256 ^ k)) + x % 256 ^ k / 256 ^ j := by
            conv => lhs; rw [← h1]
            rw [show 256 ^ k * (x / 256 ^ k) = 256 ^ j * (256 * (256 ^ d * (x / 256 ^ k))) by rw [e1]; simp [Nat.mul_assoc]]
            rw [Nat.mul_add_div (Nat.pow_pos (by omega))]
          rw [e2, Nat.mul_add_mod]
        simp only [be]
        rw [e, ih x (by omega)]
    simp only [be, List.cons_append]
    rw [Nat.mod_eq_of_lt hq, Nat.mod_eq_of_lt hq']
    by_cases he : u / 256 ^ k = u' / 256 ^ k
    · rw [he, bl_eq, hbe k u (Nat.le_refl _), hbe k u' (Nat.le_refl _)]
      rw [be_less k _ _ s t hm hm' (fun e => hne (by rw [← hu, ← hu', he, e]))]
      rw [← hu, ← hu', he]
      simp
    · rw [bl_ne (fun e => he (u8_eq hq hq' e))]
      apply decide_eq_decide.2
      rw [u8_lt hq hq']
      constructor
      · intro hlt
        have : 256 ^ k * (u / 256 ^ k + 1) ≤ 256 ^ k * (u' / 256 ^ k) := Nat.mul_le_mul_left _ hlt
        rw [Nat.mul_add] at this
        omega
      · intro hlt
        rcases Nat.lt_or_ge (u / 256 ^ k) (u' / 256 ^ k) with hx | hx
        · exact hx
        · have : 256 ^ k * (u' / 256 ^ k + 1) ≤ 256 ^ k * (u / 256 ^ k) := Nat.mul_le_mul_left _ (by omega)
          rw [Nat.mul_add] at this
          omega
theorem num8_be : ∀ (k u0 u : Nat), num8 u0 (be k u) = u0 * 256 ^ k + u % 256 ^ k
  | 0, u0, u => by simp [be, num8, Nat.mod_one]
  | k + 1, u0, u => by
    simp only [be, num8]
    rw [num8_be k, toNat_toUInt8 (Nat.mod_lt _ (by omega)), Nat.pow_succ, Nat.mod_mul, Nat.add_mul]
    simp [Nat.mul_assoc, Nat.mul_comm, Nat.mul_left_comm, Nat.add_comm, Nat.add_left_comm]
theorem num8_add : ∀ (r : List UInt8) (u0 : Nat), num8 u0 r = u0 * 256 ^ r.length + num8 0 r
  | [], u0 => by simp [num8]
  | c :: r, u0 => by
    simp only [num8, List.length_cons]
    rw [num8_add r (u0 * 256 + c.toNat), num8_add r (0 * 256 + c.toNat), Nat.pow_succ, Nat.add_mul, Nat.add_mul]
    simp [Nat.mul_assoc, Nat.mul_comm, Nat.mul_left_comm, Nat.add_assoc]
theorem num8_lt0 (r : List UInt8) : num8 0 r < 256 ^ r.length := by
  have := num8_lt r 0 0 (by simp)
  rwa [Nat.zero_add] at this
theorem be_num8 : ∀ (r : List UInt8) (u0 : Nat), be r.length (num8 u0 r) = r
  | [], u0 => rfl
  | c :: r, u0 => by
    have h1 := num8_add r (u0 * 256 + c.toNat)
    have h2 := num8_lt0 r
    simp only [num8, List.length_cons, be]
    rw [be_num8 r (u0 * 256 + c.toNat)]
    congr 1
    have hp : 0 < 256 ^ r.length := Nat.pow_pos (by omega)
    rw [h1, Nat.mul_comm, Nat.mul_add_div hp, Nat.div_eq_of_lt h2, Nat.add_zero, Nat.mul_comm u0, Nat.mul_add_mod, Nat.mod_eq_of_lt c.toNat_lt]
    exact UInt8.toNat_inj.1 (toNat_toUInt8 c.toNat_lt)

/-! ### texts -/
theorem esc_nz (c : UInt8) (t : List UInt8) (h : c ≠ 0) : esc (c :: t) = c :: esc t := by simp [esc, h]
theorem esc_z (t : List UInt8) : esc (0 :: t) = 0 :: 255 :: esc t := rfl
theorem u8_pos {c : UInt8} (h : c ≠ 0) : (0 : UInt8) < c := by
  rw [UInt8.lt_iff_toNat_lt]
  have : c.toNat ≠ 0 := fun e => h (UInt8.toNat_inj.1 e)
  show 0 < c.toNat
  omega
theorem u8_npos {c : UInt8} : ¬ c < (0 : UInt8) := by
  rw [UInt8.lt_iff_toNat_lt]
  show ¬ c.toNat < 0
  omega
theorem esc_less : ∀ (t t' s s' : List UInt8), t ≠ t' → bl (esc t ++ 0 :: 1 :: s) (esc t' ++ 0 :: 1 :: s') = bl t t'
  | [], [], s, s', h => absurd rfl h
  | [], c :: t', s, s', h => by
    by_cases hc : c = 0
    · subst hc; rw [esc_z]; simp only [esc, List.nil_append, List.cons_append]; rw [bl_eq, bl_ne (by decide)]; rfl
    · rw [esc_nz c t' hc]; simp only [esc, List.nil_append, List.cons_append]; rw [bl_ne (Ne.symm hc), bl_nc]; simpa using u8_pos hc
  | c :: t, [], s, s', h => by
    by_cases hc : c = 0
    · subst hc; rw [esc_z]; simp only [esc, List.nil_append, List.cons_append]; rw [bl_eq, bl_ne (by decide)]; rfl
    · rw [esc_nz c t hc]; simp only [esc, List.nil_append, List.cons_append]; rw [bl_ne hc, bl_nil]; simp
  | c :: t, c' :: t', s, s', h => by
    by_cases he : c = c'
    · subst he
      have hne : t ≠ t' := fun e => h (by rw [e])
      have ih := esc_less t t' s s' hne
      by_cases hc : c = 0
      · subst hc; rw [esc_z, esc_z]; simp only [List.cons_append]; rw [bl_eq, bl_eq, bl_eq, ih]
      · rw [esc_nz c t hc, esc_nz c t' hc]; simp only [List.cons_append]; rw [bl_eq, bl_eq, ih]
    · rw [bl_ne he]
      by_cases hc : c = 0
      · subst hc
        rw [esc_z, esc_nz c' t' (Ne.symm he)]; simp only [List.cons_append]; rw [bl_ne he]
      · by_cases hc' : c' = 0
        · subst hc'
          rw [esc_z, esc_nz c t hc]; simp only [List.cons_append]; rw [bl_ne he]
        · rw [esc_nz c t hc, esc_nz c' t' hc']; simp only [List.cons_append]; rw [bl_ne he]
theorem rtext_esc : ∀ (t a s : List UInt8), rtext a (esc t ++ 0 :: 1 :: s) = (a ++ t, s, 0)
  | [], a, s => by
    simp only [esc, List.nil_append]
    rw [rtext_zz, if_pos rfl, List.append_nil]
  | c :: t, a, s => by
    by_cases hc : c = 0
    · subst hc
      rw [esc_z]
      simp only [List.cons_append]
      rw [rtext_zz, if_neg (by decide), if_pos rfl, rtext_esc t (a ++ [0]) s, List.append_assoc]; rfl
    · rw [esc_nz c t hc]
      simp only [List.cons_append]
      rw [rtext_nz _ _ _ hc, rtext_esc t (a ++ [c]) s, List.append_assoc]; rfl
theorem rtext_inv : ∀ (n : Nat) (r a t s : List UInt8), r.length ≤ n → rtext a r = (t, s, 0) → ∃ u, t = a ++ u ∧ r = esc u ++ 0 :: 1 :: s
  | 0, r, a, t, s, h, e => by
    have : r = [] := List.eq_nil_of_length_eq_zero (by omega)
    subst this; simp [rtext] at e
  | n + 1, [], a, t, s, h, e => by simp [rtext] at e
  | n + 1, c :: r, a, t, s, h, e => by
    by_cases hc : c = 0
    · subst hc
      match r, h, e with
      | [], _, e => simp [rtext_z] at e
      | d :: r', h, e =>
        rw [rtext_zz] at e
        split at e
        · rename_i hd
          subst hd
          simp at e
          obtain ⟨rfl, rfl⟩ := e
          exact ⟨[], by simp, rfl⟩
        · split at e
          · rename_i hd
            subst hd
            obtain ⟨u, h1, h2⟩ := rtext_inv n r' (a ++ [0]) t s (by simp at h; omega) e
            exact ⟨0 :: u, by rw [h1]; simp, by rw [esc_z, h2]; rfl⟩
          · simp at e
    · rw [rtext_nz _ _ _ hc] at e
      obtain ⟨u, h1, h2⟩ := rtext_inv n r (a ++ [c]) t s (by simp at h; omega) e
      exact ⟨c :: u, by rw [h1]; simp, by rw [esc_nz c u hc, h2]; rfl⟩

/-! ### values -/
def good (v : V) : Prop := mayB v = true ∧ i64r v.n
theorem good_k {v : V} (h : mayB v = true) : (v.k = 0 ∧ v.n = 0 ∧ v.t = []) ∨ (v.k = 1 ∧ (v.n = 0 ∨ v.n = 1) ∧ v.t = []) ∨ (v.k = 2 ∧ v.t = []) ∨ (v.k = 3 ∧ v.n = 0) := by
  unfold mayB at h
  split at h
  · simp at h; simp [*]
  split at h
  · simp at h; simp [*]
  split at h
  · simp at h; simp [*]
  split at h
  · simp at h; simp [*]
  · cases h
theorem toN (n : Int) (h : i64r n) : (n + 9223372036854775808).toNat < 256 ^ 8 := by unfold i64r at h; omega
theorem kone_less (v v' : V) (s t : List UInt8) (h : good v) (h' : good v') (hne : v ≠ v') : bl (kone v ++ s) (kone v' ++ t) = lessV v v' := by
  obtain ⟨hm, hn⟩ := h
  obtain ⟨hm', hn'⟩ := h'
  obtain ⟨k, n, x⟩ := v
  obtain ⟨k', n', x'⟩ := v'
  have g := good_k hm
  have g' := good_k hm'
  dsimp only at g g' hn hn'
  unfold lessV
  dsimp only
  rcases g with ⟨rfl, rfl, rfl⟩ | ⟨rfl, rfl | rfl, rfl⟩ | ⟨rfl, rfl⟩ | ⟨rfl, rfl⟩ <;> rcases g' with ⟨rfl, rfl, rfl⟩ | ⟨rfl, rfl | rfl, rfl⟩ | ⟨rfl, rfl⟩ | ⟨rfl, rfl⟩ <;>
    first
    | exact absurd rfl hne
    | rfl
    | skip
  · have hnn : n ≠ n' := fun e => hne (by rw [e])
    show bl (3 :: (be 8 (n + 9223372036854775808).toNat ++ s)) (3 :: (be 8 (n' + 9223372036854775808).toNat ++ t)) = decide (n < n')
    rw [bl_eq, be_less 8 _ _ _ _ (toN n hn) (toN n' hn') (fun e => hnn (by unfold i64r at hn hn'; omega))]
    apply decide_eq_decide.2
    unfold i64r at hn hn'
    omega
  · have hx : x ≠ x' := fun e => hne (by rw [e])
    show bl (4 :: ((esc x ++ [0, 1]) ++ s)) (4 :: ((esc x' ++ [0, 1]) ++ t)) = bl x x'
    rw [bl_eq, List.append_assoc, List.append_assoc]
    exact esc_less x x' s t hx
theorem kone_ne (v : V) : ∃ c r, kone v = c :: r := by
  unfold kone
  split
  · exact ⟨_, _, rfl⟩
  split
  · exact ⟨_, _, rfl⟩
  split
  · exact ⟨_, _, rfl⟩
  · exact ⟨_, _, rfl⟩
theorem F_cons (v : V) (l : List V) : F (v :: l) = kone v ++ F l := List.flatMap_cons
theorem rows_less : ∀ (a b : List V), (∀ v ∈ a, good v) → (∀ v ∈ b, good v) → bl (F a) (F b) = rowsL a b
  | [], [], _, _ => rfl
  | [], v :: b, _, _ => by
    obtain ⟨c, r, h⟩ := kone_ne v
    rw [F_cons, h]; rfl
  | v :: a, [], _, _ => by show bl _ [] = _; rw [bl_nil]; rfl
  | v :: a, v' :: b, h, h' => by
    rw [F_cons, F_cons]
    unfold rowsL
    split
    · rename_i e
      subst e
      rw [bl_pre]
      exact rows_less a b (fun u hu => h u (by simp [hu])) (fun u hu => h' u (by simp [hu]))
    · rename_i e
      exact kone_less v v' _ _ (h v (by simp)) (h' v' (by simp)) e

/-! ### reading back -/
theorem rone_kone (v : V) (s : List UInt8) (h : good v) : ∃ c r, kone v ++ s = c :: r ∧ rone c r = (v, s, 0) := by
  obtain ⟨hm, hn⟩ := h
  obtain ⟨k, n, x⟩ := v
  have g := good_k hm
  dsimp only at g hn
  rcases g with ⟨rfl, rfl, rfl⟩ | ⟨rfl, rfl | rfl, rfl⟩ | ⟨rfl, rfl⟩ | ⟨rfl, rfl⟩
  · exact ⟨1, s, rfl, rfl⟩
  · exact ⟨2, 0 :: s, rfl, rfl⟩
  · exact ⟨2, 1 :: s, rfl, rfl⟩
  · refine ⟨3, be 8 (n + 9223372036854775808).toNat ++ s, rfl, ?_⟩
    have hl : (be 8 (n + 9223372036854775808).toNat).length = 8 := be_len 8 _
    unfold rone
    rw [if_neg (by decide), if_neg (by decide), if_pos rfl, if_neg (by rw [List.length_append]; omega), List.take_left' hl, List.drop_left' hl, num8_be, Nat.mod_eq_of_lt (toN n hn)]
    unfold i64r at hn
    have e : (((0 * 256 ^ 8 + (n + 9223372036854775808).toNat : Nat) : Int) - 9223372036854775808) = n := by omega
    rw [e]
  · refine ⟨4, (esc x ++ [0, 1]) ++ s, rfl, ?_⟩
    unfold rone
    rw [if_neg (by decide), if_neg (by decide), if_neg (by decide), if_pos rfl, List.append_assoc]
    rw [show ([0, 1] : List UInt8) ++ s = 0 :: 1 :: s from rfl, rtext_esc]
    rfl
theorem rone_inv (c : UInt8) (r s : List UInt8) (v : V) (h : rone c r = (v, s, 0)) : good v ∧ v.k < 256 ∧ c :: r = kone v ++ s := by
  unfold rone at h
  split at h
  · rename_i hc
    subst hc
    simp at h
    obtain ⟨rfl, rfl⟩ := h
    exact ⟨⟨rfl, by unfold i64r; exact ⟨by decide, by decide⟩⟩, by decide, rfl⟩
  split at h
  · rename_i hc
    subst hc
    match r, h with
    | [], h => simp at h
    | d :: r', h =>
      simp only at h
      split at h
      · simp at h
      · rename_i hd
        simp at h
        obtain ⟨rfl, rfl⟩ := h
        have hd2 : d.toNat = 0 ∨ d.toNat = 1 := by omega
        rcases hd2 with e | e
        · have : d = 0 := UInt8.toNat_inj.1 e
          subst this
          exact ⟨⟨rfl, by unfold i64r; exact ⟨by decide, by decide⟩⟩, by decide, rfl⟩
        · have : d = 1 := UInt8.toNat_inj.1 e
          subst this
          exact ⟨⟨rfl, by unfold i64r; exact ⟨by decide, by decide⟩⟩, by decide, rfl⟩
  split at h
  · rename_i hc
    subst hc
    split at h
    · simp at h
    · rename_i hl
      simp at h
      obtain ⟨rfl, rfl⟩ := h
      have h8 : (r.take 8).length = 8 := by simp; omega
      have hlt := num8_lt0 (r.take 8)
      rw [h8] at hlt
      have hb : be 8 (num8 0 (r.take 8)) = r.take 8 := by
        have := be_num8 (r.take 8) 0
        rwa [h8] at this
      refine ⟨⟨rfl, ?_⟩, (by show 2 < 256; omega), ?_⟩
      · unfold i64r; dsimp only; omega
      · show 3 :: r = 3 :: (be 8 (((num8 0 (r.take 8) : Nat) : Int) - 9223372036854775808 + 9223372036854775808).toNat ++ r.drop 8)
        rw [show (((num8 0 (r.take 8) : Nat) : Int) - 9223372036854775808 + 9223372036854775808).toNat = num8 0 (r.take 8) by omega, hb, List.take_append_drop]
  split at h
  · rename_i hc
    subst hc
    split at h
    · rename_i h0
      simp at h
      obtain ⟨rfl, rfl⟩ := h
      obtain ⟨u, h1, h2⟩ := rtext_inv _ r [] (rtext [] r).1 (rtext [] r).2.1 (Nat.le_refl _) (by rw [← h0])
      rw [List.nil_append] at h1
      refine ⟨⟨rfl, (by show i64r 0; unfold i64r; exact ⟨by decide, by decide⟩)⟩, (by show 3 < 256; omega), ?_⟩
      show 4 :: r = 4 :: ((esc (rtext [] r).1 ++ [0, 1]) ++ (rtext [] r).2.1)
      rw [List.append_assoc]
      show 4 :: r = 4 :: (esc (rtext [] r).1 ++ 0 :: 1 :: (rtext [] r).2.1)
      rw [h1, ← h2]
    · simp at h
      omega
  · simp at h
theorem rtext_err : ∀ (n : Nat) (r a : List UInt8), r.length ≤ n → (rtext a r).2.2 = 0 ∨ (rtext a r).2.2 = 20 ∨ (rtext a r).2.2 = 21
  | 0, r, a, h => by
    have : r = [] := List.eq_nil_of_length_eq_zero (by omega)
    subst this; simp [rtext]
  | n + 1, [], a, h => by simp [rtext]
  | n + 1, c :: r, a, h => by
    by_cases hc : c = 0
    · subst hc
      match r, h with
      | [], _ => simp [rtext_z]
      | d :: r', h =>
        rw [rtext_zz]
        split
        · simp
        · split
          · exact rtext_err n r' (a ++ [0]) (by simp at h; omega)
          · simp
    · rw [rtext_nz _ _ _ hc]
      exact rtext_err n r (a ++ [c]) (by simp at h; omega)
theorem rone_err (c : UInt8) (r : List UInt8) : (rone c r).2.2 = 0 ∨ (rone c r).2.2 = 20 ∨ (rone c r).2.2 = 21 := by
  unfold rone
  split
  · simp
  split
  · match r with
    | [] => simp
    | d :: r' => simp only []; split <;> simp
  split
  · split <;> simp
  split
  · split
    · simp
    · exact rtext_err _ r [] (Nat.le_refl _)
  · simp
theorem kp_F : ∀ (l acc : List V), (∀ v ∈ l, good v) → kp acc (F l) = (acc ++ l, 0)
  | [], acc, _ => by show kp acc [] = _; rw [kp_nil, List.append_nil]
  | v :: l, acc, h => by
    obtain ⟨c, r, h1, h2⟩ := rone_kone v (F l) (h v (by simp))
    rw [F_cons, h1, kp_cons, h2, if_pos rfl]
    rw [kp_F l (acc ++ [v]) (fun u hu => h u (by simp [hu])), List.append_assoc]; rfl
theorem kparse_F (l : List V) (h : ∀ v ∈ l, good v) : kparse (F l) = (l, 0) := kp_F l [] h
theorem kp_inv : ∀ (n : Nat) (b : List UInt8) (acc m : List V) (e : Nat), b.length ≤ n → kp acc b = (m, e) → (e = 0 ∧ ∃ l, m = acc ++ l ∧ b = F l ∧ ∀ v ∈ l, good v ∧ v.k < 256) ∨ (m = [] ∧ (e = 20 ∨ e = 21))
  | 0, b, acc, m, e, hn, h => by
    have : b = [] := List.eq_nil_of_length_eq_zero (by omega)
    subst this
    rw [kp_nil] at h
    cases h
    exact .inl ⟨rfl, [], by simp, rfl, by simp⟩
  | n + 1, [], acc, m, e, hn, h => by
    rw [kp_nil] at h
    cases h
    exact .inl ⟨rfl, [], by simp, rfl, by simp⟩
  | n + 1, c :: r, acc, m, e, hn, h => by
    rw [kp_cons] at h
    split at h
    · rename_i h0
      have hl := rone_len c r
      obtain ⟨g1, g2, g3⟩ := rone_inv c r (rone c r).2.1 (rone c r).1 (by rw [← h0])
      rcases kp_inv n _ _ m e (by simp at hn; omega) h with ⟨h1, l, h2, h3, h4⟩ | h1
      · refine .inl ⟨h1, (rone c r).1 :: l, by rw [h2]; simp, by rw [F_cons, ← h3, ← g3], fun v hv => ?_⟩
        rcases List.mem_cons.1 hv with rfl | hv
        · exact ⟨g1, g2⟩
        · exact h4 v hv
      · exact .inr h1
    · rename_i h0
      cases h
      exact .inr ⟨rfl, (rone_err c r).resolve_left h0⟩
theorem F_inj {a b : List V} (ha : ∀ v ∈ a, good v) (hb : ∀ v ∈ b, good v) (h : F a = F b) : a = b := by
  have h1 := kparse_F a ha
  rw [h, kparse_F b hb] at h1
  simpa using h1.symm
end Go.Proofs.Ytdbhbfpfcdklmaa

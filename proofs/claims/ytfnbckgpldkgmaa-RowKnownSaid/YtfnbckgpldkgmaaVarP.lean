/- Plain laws of layer 2: a number's bytes, and how they are read. No program in sight. -/
namespace Go.Proofs.Ytfnbckgpldkgmaa
/-- a number's bytes -/
def vput (x : Nat) : List UInt8 :=
  if x < 128 then [x.toUInt8] else (x % 128 + 128).toUInt8 :: vput (x / 128)
termination_by x
decreasing_by omega

theorem vput_small {x : Nat} (h : x < 128) : vput x = [x.toUInt8] := by rw [vput, if_pos h]
theorem vput_big {x : Nat} (h : 128 ≤ x) : vput x = (x % 128 + 128).toUInt8 :: vput (x / 128) := by rw [vput, if_neg (by omega)]
theorem vput_pos (x : Nat) : 1 ≤ (vput x).length := by
  rw [vput]; split <;> simp
theorem vput_length : ∀ (k x : Nat), x < 128 ^ (k + 1) → (vput x).length ≤ k + 1
  | 0, x, h => by rw [vput_small (by omega)]; simp
  | k + 1, x, h => by
    by_cases hx : x < 128
    · rw [vput_small hx]; simp
    · rw [vput_big (by omega)]
      have := vput_length k (x / 128) (by rw [Nat.pow_succ] at h; omega)
      simp; omega
theorem vput_length64 {x : Nat} (h : x < 18446744073709551616) : (vput x).length ≤ 10 :=
  vput_length 9 x (by omega)
/-- value, bytes, error -/
def vgetF : Nat → Nat → Nat → List UInt8 → Nat × Nat × Nat
  | 0, _, _, _ => (0, 0, 21)
  | _ + 1, _, _, [] => (0, 0, 20)
  | k + 1, i, acc, c :: l =>
    if i = 9 ∧ 1 < c.toNat then (0, 0, 21)
    else if c.toNat < 128 then (if c.toNat = 0 ∧ 0 < i then (0, 0, 21) else (acc + (c.toNat % 128) * 128 ^ i, i + 1, 0))
    else vgetF k (i + 1) (acc + (c.toNat % 128) * 128 ^ i) l
def vget (l : List UInt8) : Nat × Nat × Nat := vgetF 10 0 0 l

theorem toNat_toUInt8 {n : Nat} (h : n < 256) : n.toUInt8.toNat = n := by
  show (UInt8.ofNat n).toNat = n
  rw [UInt8.toNat_ofNat']; omega

/-- what is put is got, whatever stands behind -/
theorem vgetF_vput : ∀ (k i acc x : Nat) (l : List UInt8), i + k = 9 → x < 2 * 128 ^ k → (x = 0 → i = 0) →
    vgetF (k + 1) i acc (vput x ++ l) = (acc + x * 128 ^ i, i + (vput x).length, 0)
  | 0, i, acc, x, l, hi, hx, h0 => by
    have h9 : i = 9 := by omega
    subst h9
    have hx1 : x < 2 := by simpa using hx
    rw [vput_small (by omega)]
    simp only [List.cons_append, List.nil_append, vgetF, toNat_toUInt8 (show x < 256 by omega)]
    rw [if_neg (by omega), if_pos (by omega), if_neg (by omega), Nat.mod_eq_of_lt (by omega)]
    rfl
  | k + 1, i, acc, x, l, hi, hx, h0 => by
    by_cases h : x < 128
    · rw [vput_small h]
      simp only [List.cons_append, List.nil_append, vgetF, toNat_toUInt8 (show x < 256 by omega)]
      rw [if_neg (by omega), if_pos (by omega), if_neg (by omega), Nat.mod_eq_of_lt (by omega)]
      rfl
    · rw [vput_big (by omega)]
      simp only [List.cons_append, vgetF, toNat_toUInt8 (show x % 128 + 128 < 256 by omega)]
      rw [if_neg (by omega), if_neg (by omega), vgetF_vput k (i + 1) _ (x / 128) l (by omega) (by rw [Nat.pow_succ] at hx; omega) (by omega)]
      have e : (x % 128 + 128) % 128 = x % 128 := by omega
      rw [e]
      refine Prod.ext ?_ (Prod.ext (by simp; omega) rfl)
      show acc + x % 128 * 128 ^ i + x / 128 * 128 ^ (i + 1) = acc + x * 128 ^ i
      rw [Nat.pow_succ, Nat.mul_comm (128 ^ i) 128, ← Nat.mul_assoc, Nat.add_assoc, ← Nat.add_mul]
      congr 2; omega
theorem vget_vput {x : Nat} (h : x < 18446744073709551616) (l : List UInt8) : vget (vput x ++ l) = (x, (vput x).length, 0) := by
  have := vgetF_vput 9 0 0 x l rfl (by omega) (fun _ => rfl)
  simpa [vget] using this

/-- what is got is put as the same bytes -/
theorem vgetF_ok : ∀ (k i acc : Nat) (l : List UInt8) (v n : Nat), i + k = 10 → vgetF k i acc l = (v, n, 0) →
    ∃ x m, n = i + m ∧ 1 ≤ m ∧ m ≤ k ∧ m ≤ l.length ∧ v = acc + x * 128 ^ i ∧ vput x = l.take m ∧ x < 2 * 128 ^ (k - 1) ∧ (x = 0 → i = 0)
  | 0, i, acc, l, v, n, _, h => by simp [vgetF] at h
  | k + 1, i, acc, [], v, n, _, h => by simp [vgetF] at h
  | k + 1, i, acc, c :: l, v, n, hi, h => by
    have hc := c.toNat_lt
    have hcc : ∀ m : Nat, m = c.toNat → m.toUInt8 = c := by
      rintro m rfl; simp [Nat.toUInt8]
    simp only [vgetF] at h
    split at h
    · simp at h
    · rename_i h9
      split at h
      · rename_i h128
        split at h
        · simp at h
        · rename_i hz
          simp only [Prod.mk.injEq] at h
          obtain ⟨rfl, rfl, _⟩ := h
          refine ⟨c.toNat, 1, rfl, by omega, by omega, by simp, by rw [Nat.mod_eq_of_lt h128], ?_, ?_, by omega⟩
          · rw [vput_small h128, hcc _ rfl]; rfl
          · rcases Nat.eq_zero_or_pos k with rfl | hk
            · simp; omega
            · have : 128 ^ 1 ≤ 128 ^ k := Nat.pow_le_pow_right (by omega) hk
              simp; omega
      · rename_i h128
        obtain ⟨x, m, rfl, h1, h2, h3, rfl, h5, h6, h7⟩ := vgetF_ok k (i + 1) _ l v n (by omega) h
        have hk : k ≠ 0 := by omega
        obtain ⟨k, rfl⟩ := Nat.exists_eq_succ_of_ne_zero hk
        have hx : x ≠ 0 := fun h => by have := h7 h; omega
        refine ⟨c.toNat % 128 + x * 128, m + 1, by omega, by omega, by omega, by simp; omega, ?_, ?_, ?_, by omega⟩
        · rw [Nat.add_assoc, Nat.add_mul, Nat.pow_succ, Nat.mul_comm (128 ^ i) 128, Nat.mul_assoc]
        · rw [vput_big (by omega), List.take_succ_cons, ← h5, hcc _ (by omega)]
          congr 2; omega
        · simp only [Nat.succ_eq_add_one, Nat.add_sub_cancel] at h6 ⊢
          rw [Nat.pow_succ]; omega
theorem vget_ok {l : List UInt8} {v n : Nat} (h : vget l = (v, n, 0)) : 1 ≤ n ∧ n ≤ 10 ∧ n ≤ l.length ∧ vput v = l.take n ∧ v < 18446744073709551616 := by
  obtain ⟨x, m, hn, h1, h2, h3, hv, h5, h6, _⟩ := vgetF_ok 10 0 0 l v n rfl h
  simp at hn hv
  subst hn hv
  refine ⟨h1, h2, h3, h5, by omega⟩
/-- what else there may be -/
theorem vgetF_cases : ∀ (k i acc : Nat) (l : List UInt8), (vgetF k i acc l).2.2 = 0 ∨ vgetF k i acc l = (0, 0, 20) ∨ vgetF k i acc l = (0, 0, 21)
  | 0, i, acc, l => by simp [vgetF]
  | k + 1, i, acc, [] => by simp [vgetF]
  | k + 1, i, acc, c :: l => by
    simp only [vgetF]
    split
    · simp
    · split
      · split <;> simp
      · exact vgetF_cases k _ _ l
theorem vget_cases (l : List UInt8) : (vget l).2.2 = 0 ∨ vget l = (0, 0, 20) ∨ vget l = (0, 0, 21) := vgetF_cases 10 0 0 l
theorem vgetF_val : ∀ (k i acc : Nat) (l : List UInt8), i + k = 10 → acc < 128 ^ i → (vgetF k i acc l).1 < 18446744073709551616 ∧ (vgetF k i acc l).2.1 ≤ 10 ∧ (vgetF k i acc l).2.1 ≤ i + l.length
  | 0, i, acc, l, _, _ => by simp [vgetF]
  | k + 1, i, acc, [], _, _ => by simp [vgetF]
  | k + 1, i, acc, c :: l, hi, ha => by
    have hstep : acc + c.toNat % 128 * 128 ^ i < 128 ^ (i + 1) := by
      have : c.toNat % 128 * 128 ^ i ≤ 127 * 128 ^ i := Nat.mul_le_mul_right _ (by omega)
      rw [Nat.pow_succ]; omega
    simp only [vgetF]
    split
    · simp
    · split
      · split
        · simp
        · rename_i h9 h128 hz
          refine ⟨?_, by simp; omega, by simp⟩
          show acc + c.toNat % 128 * 128 ^ i < _
          by_cases h : i = 9
          · subst h
            have : c.toNat ≤ 1 := by omega
            have : c.toNat % 128 * 128 ^ 9 ≤ 1 * 128 ^ 9 := Nat.mul_le_mul_right _ (by omega)
            omega
          · have : 128 ^ (i + 1) ≤ 128 ^ 9 := Nat.pow_le_pow_right (by omega) (by omega)
            omega
      · have := vgetF_val k (i + 1) _ l (by omega) hstep
        simp only [List.length_cons]
        omega
theorem vget_val (l : List UInt8) : (vget l).1 < 18446744073709551616 ∧ (vget l).2.1 ≤ 10 ∧ (vget l).2.1 ≤ l.length := by
  have := vgetF_val 10 0 0 l rfl (by simp)
  simpa [vget] using this
/-- a part of a number's bytes is short -/
theorem vgetF_short : ∀ (k i acc x : Nat) (m : Nat), i + k = 9 → x < 2 * 128 ^ k → m < (vput x).length → vgetF (k + 1) i acc ((vput x).take m) = (0, 0, 20)
  | k, i, acc, x, 0, hi, hx, hm => by simp [vgetF]
  | 0, i, acc, x, m + 1, hi, hx, hm => by
    rw [vput_small (by omega)] at hm; simp at hm
  | k + 1, i, acc, x, m + 1, hi, hx, hm => by
    by_cases h : x < 128
    · rw [vput_small h] at hm; simp at hm
    · rw [vput_big (by omega)] at hm ⊢
      simp only [List.take_succ_cons, vgetF, toNat_toUInt8 (show x % 128 + 128 < 256 by omega)]
      rw [if_neg (by omega), if_neg (by omega)]
      exact vgetF_short k (i + 1) _ (x / 128) m (by omega) (by rw [Nat.pow_succ] at hx; omega) (by simp at hm; omega)
theorem vget_short {x m : Nat} (h : x < 18446744073709551616) (hm : m < (vput x).length) : vget ((vput x).take m) = (0, 0, 20) :=
  vgetF_short 9 0 0 x m rfl (by omega) hm
theorem vput_mono : ∀ (x y : Nat), x ≤ y → (vput x).length ≤ (vput y).length := by
  intro x
  induction x using Nat.strongRecOn with
  | _ x ih =>
    intro y h
    by_cases hx : x < 128
    · rw [vput_small hx]; exact vput_pos y
    · rw [vput_big (by omega), vput_big (show 128 ≤ y by omega)]
      have := ih (x / 128) (by omega) (y / 128) (by omega)
      simp; omega

/-! the reference's way -/
def vcnt : Nat → List UInt8 → Nat
  | 0, _ => 0
  | _ + 1, [] => 0
  | k + 1, c :: l => if 128 ≤ c.toNat then 1 + vcnt k l else 0
def vval : List UInt8 → Nat
  | [] => 0
  | c :: l => c.toNat % 128 + 128 * vval l
theorem vcnt_le : ∀ (k : Nat) (l : List UInt8), vcnt k l ≤ k ∧ vcnt k l ≤ l.length
  | 0, l => by simp [vcnt]
  | k + 1, [] => by simp [vcnt]
  | k + 1, c :: l => by
    have := vcnt_le k l
    simp only [vcnt]; split <;> simp <;> omega
theorem vgetF_ref : ∀ (k i acc : Nat) (l : List UInt8), i + k = 10 → 0 < k →
    vgetF k i acc l = if vcnt k l = l.length ∧ vcnt k l < k then (0, 0, 20)
      else if vcnt k l = k ∨ (i + vcnt k l = 9 ∧ 1 < (l.getD (vcnt k l) 0).toNat) ∨ (0 < i + vcnt k l ∧ (l.getD (vcnt k l) 0).toNat = 0) then (0, 0, 21)
      else (acc + vval (l.take (vcnt k l + 1)) * 128 ^ i, i + vcnt k l + 1, 0)
  | 0, _, _, _, _, h => by omega
  | k + 1, i, acc, [], hi, _ => by simp [vgetF, vcnt]
  | k + 1, i, acc, c :: l, hi, _ => by
    by_cases h : 128 ≤ c.toNat
    · have hcnt := vcnt_le k l
      have e : vcnt (k + 1) (c :: l) = vcnt k l + 1 := by simp [vcnt, h]; omega
      simp only [vgetF, e]
      by_cases h9 : i = 9
      · have hk : k = 0 := by omega
        subst hk
        rw [if_pos ⟨h9, by omega⟩, if_neg (by omega), if_pos (by omega)]
      · rw [if_neg (by omega), if_neg (by omega), vgetF_ref k (i + 1) _ l (by omega) (by omega)]
        simp only [List.length_cons, List.getD_cons_succ, List.take_succ_cons, vval]
        by_cases a : vcnt k l = l.length ∧ vcnt k l < k
        · rw [if_pos a, if_pos (by omega)]
        · rw [if_neg a, if_neg (show ¬ (vcnt k l + 1 = l.length + 1 ∧ vcnt k l + 1 < k + 1) by omega)]
          by_cases b : vcnt k l = k ∨ (i + 1 + vcnt k l = 9 ∧ 1 < (l.getD (vcnt k l) 0).toNat) ∨ (0 < i + 1 + vcnt k l ∧ (l.getD (vcnt k l) 0).toNat = 0)
          · rw [if_pos b, if_pos (by omega)]
          · rw [if_neg b, if_neg (show ¬ (vcnt k l + 1 = k + 1 ∨ (i + (vcnt k l + 1) = 9 ∧ 1 < (l.getD (vcnt k l) 0).toNat) ∨ (0 < i + (vcnt k l + 1) ∧ (l.getD (vcnt k l) 0).toNat = 0)) by omega)]
            refine Prod.ext ?_ (Prod.ext (by simp; omega) rfl)
            show acc + c.toNat % 128 * 128 ^ i + vval _ * 128 ^ (i + 1) = acc + (c.toNat % 128 + 128 * vval _) * 128 ^ i
            rw [Nat.pow_succ, Nat.mul_comm (128 ^ i) 128, ← Nat.mul_assoc, Nat.add_assoc, ← Nat.add_mul, Nat.mul_comm (vval _) 128]
    · have e : vcnt (k + 1) (c :: l) = 0 := by simp [vcnt, h]
      simp only [vgetF, e]
      simp only [List.length_cons, List.getD_cons_zero, List.take_succ_cons, List.take_zero, vval]
      by_cases h9 : i = 9 ∧ 1 < c.toNat
      · rw [if_pos h9, if_neg (show ¬ (0 = l.length + 1 ∧ 0 < k + 1) by omega), if_pos (by omega)]
      · rw [if_neg h9, if_pos (show c.toNat < 128 by omega), if_neg (show ¬ (0 = l.length + 1 ∧ 0 < k + 1) by omega)]
        by_cases hz : c.toNat = 0 ∧ 0 < i
        · rw [if_pos hz, if_pos (by omega)]
        · rw [if_neg hz, if_neg (show ¬ (0 = k + 1 ∨ i + 0 = 9 ∧ 1 < c.toNat ∨ 0 < i + 0 ∧ c.toNat = 0) by omega)]
          simp
theorem vget_ref (l : List UInt8) : vget l = if vcnt 10 l = l.length ∧ vcnt 10 l < 10 then (0, 0, 20)
      else if vcnt 10 l = 10 ∨ (vcnt 10 l = 9 ∧ 1 < (l.getD 9 0).toNat) ∨ (0 < vcnt 10 l ∧ (l.getD (vcnt 10 l) 0).toNat = 0) then (0, 0, 21)
      else (vval (l.take (vcnt 10 l + 1)), vcnt 10 l + 1, 0) := by
  have h := vgetF_ref 10 0 0 l rfl (by omega)
  unfold vget
  rw [h]
  have e : (vcnt 10 l = 9 ∧ 1 < (l.getD (vcnt 10 l) 0).toNat) = (vcnt 10 l = 9 ∧ 1 < (l.getD 9 0).toNat) := by
    refine propext ⟨fun ⟨a, b⟩ => ?_, fun ⟨a, b⟩ => ?_⟩
    · have a' : vcnt 10 l = 9 := by omega
      rw [a'] at b; exact ⟨a', b⟩
    · refine ⟨by omega, by rw [a]; exact b⟩
  simp only [Nat.zero_add, Nat.pow_zero, Nat.mul_one, e]
/-! zigzag -/
def zig (v : Int) : Int := if 0 ≤ v then 2 * v else -2 * v - 1
def zag (u : Int) : Int := if u % 2 = 0 then u / 2 else -(u / 2) - 1
theorem zag_zig (v : Int) : zag (zig v) = v := by unfold zag zig; split <;> split <;> omega
theorem zig_zag (u : Int) (h : 0 ≤ u) : zig (zag u) = u := by unfold zag zig; split <;> split <;> omega
theorem zig_bd (v : Int) (h : -9223372036854775808 ≤ v) (h' : v ≤ 9223372036854775807) : 0 ≤ zig v ∧ zig v < 18446744073709551616 := by unfold zig; split <;> omega
theorem zag_bd (u : Int) (h : 0 ≤ u) (h' : u < 18446744073709551616) : -9223372036854775808 ≤ zag u ∧ zag u ≤ 9223372036854775807 := by unfold zag; split <;> omega

theorem vget_mid (l : List UInt8) (k : Nat) (hk : vcnt 10 l = k) (hk10 : k < 10) (hkl : k < l.length) :
    vget l = if (k = 9 ∧ 1 < (l[k]).toNat) ∨ (0 < k ∧ (l[k]).toNat = 0) then (0, 0, 21) else (vval (l.take (k + 1)), k + 1, 0) := by
  rw [vget_ref, hk, if_neg (by omega)]
  have hgd : l.getD k 0 = l[k] := by simp [List.getD, hkl]
  rw [hgd]
  have h9 : (k = 9 ∧ 1 < (l.getD 9 0).toNat) ↔ (k = 9 ∧ 1 < (l[k]).toNat) := by
    constructor
    · rintro ⟨rfl, h⟩; rw [hgd] at h; exact ⟨rfl, h⟩
    · rintro ⟨rfl, h⟩; rw [hgd]; exact ⟨rfl, h⟩
  by_cases hc : (k = 9 ∧ 1 < (l[k]).toNat) ∨ (0 < k ∧ (l[k]).toNat = 0)
  · rw [if_pos hc, if_pos]
    rw [h9]; exact .inr hc
  · rw [if_neg hc, if_neg]
    rw [h9]
    rintro (h | h)
    · omega
    · exact hc h
theorem vval_le : ∀ (l : List UInt8) (j : Nat), vval (l.drop j) ≤ vval l
  | _, 0 => by simp
  | [], j + 1 => by simp
  | c :: l, j + 1 => by
    have := vval_le l j
    simp only [List.drop_succ_cons, vval]
    omega
theorem vval_drop (l : List UInt8) (j : Nat) (h : j < l.length) : vval (l.drop j) = (l[j]).toNat % 128 + 128 * vval (l.drop (j + 1)) := by
  rw [List.drop_eq_getElem_cons h]; rfl
end Go.Proofs.Ytfnbckgpldkgmaa

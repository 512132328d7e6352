/- Joined texts: see the remark ahead of each part. No condition but those that the parts name. -/
import Derived.Test.YthkpgjcnnfdibaaKys
import Derived.Test.YthkpgjcnnfdibaaCoA
import Derived.Lib.Bytealg
import Derived.Laws.Externs
import Derived.OneCell
import Derived.WalkMore
/-! How values stand: their key bytes in order (plain), and the reference's Less. No condition. -/
namespace Go.Proofs.Ythkpgjcnnfdibaa
open Go.RowKit
set_option linter.unusedVariables false
set_option linter.unusedSimpArgs false

abbrev bl := Op.bytesLess
theorem bl_nil (a : List UInt8) : bl a [] = false := by cases a <;> rfl
theorem bl_nc (b : UInt8) (y : List UInt8) : bl [] (b :: y) = true := rfl
theorem bl_cc (a b : UInt8) (x y : List UInt8) : bl (a :: x) (b :: y) = (decide (a < b) || (a == b && bl x y)) := rfl
theorem bl_eq (a : UInt8) (x y : List UInt8) : bl (a :: x) (a :: y) = bl x y := by rw [bl_cc]; simp
theorem bl_ne {a b : UInt8} (h : a ≠ b) (x y : List UInt8) : bl (a :: x) (b :: y) = decide (a < b) := by rw [bl_cc]; simp [h]
theorem bl_pre : ∀ (p x y : List UInt8), bl (p ++ x) (p ++ y) = bl x y
  | [], x, y => rfl
  | a :: p, x, y => by rw [List.cons_append, List.cons_append, bl_eq, bl_pre p x y]
theorem bl_self : ∀ x : List UInt8, bl x x = false
  | [] => rfl
  | a :: x => by rw [bl_eq, bl_self x]
theorem u8_eq {a b : Nat} (ha : a < 256) (hb : b < 256) (h : a.toUInt8 = b.toUInt8) : a = b := by
  have := congrArg UInt8.toNat h
  rwa [toNat_toUInt8 ha, toNat_toUInt8 hb] at this
theorem u8_lt {a b : Nat} (ha : a < 256) (hb : b < 256) : (a.toUInt8 < b.toUInt8) ↔ a < b := by
  rw [UInt8.lt_iff_toNat_lt, toNat_toUInt8 ha, toNat_toUInt8 hb]
theorem be_less : ∀ (k u u' : Nat) (s t : List UInt8), u < 256 ^ k → u' < 256 ^ k → u ≠ u' → bl (be k u ++ s) (be k u' ++ t) = decide (u < u')
  | 0, u, u', s, t, h, h', hne => by simp at h h'; omega
  | k + 1, u, u', s, t, h, h', hne => by
    have hp : 0 < 256 ^ k := Nat.pow_pos (by omega)
    rw [Nat.pow_succ, Nat.mul_comm] at h h'
    have hq : u / 256 ^ k < 256 := Nat.div_lt_of_lt_mul (by rwa [Nat.mul_comm] at h)
    have hq' : u' / 256 ^ k < 256 := Nat.div_lt_of_lt_mul (by rwa [Nat.mul_comm] at h')
    have hu := Nat.div_add_mod u (256 ^ k)
    have hu' := Nat.div_add_mod u' (256 ^ k)
    have hm := Nat.mod_lt u hp
    have hm' := Nat.mod_lt u' hp
    have hbe : ∀ j x, j ≤ k → be j x = be j (x % 256 ^ k) := fun j => by
      induction j with
      | zero => intro x _; rfl
      | succ j ih =>
        intro x hj
        have e : x / 256 ^ j % 256 = x % 256 ^ k / 256 ^ j % 256 := by
          obtain ⟨d, hd⟩ : ∃ d, k = j + 1 + d := ⟨k - (j + 1), by omega⟩
          have h1 := Nat.div_add_mod x (256 ^ k)
          have e1 : 256 ^ k = 256 ^ j * (256 * 256 ^ d) := by rw [hd, Nat.pow_add, Nat.pow_succ, Nat.mul_assoc]
          have e2 : x / 256 ^ j = 256 * (256 ^ d * (x / 256 ^ k)) + x % 256 ^ k / 256 ^ j := by
            conv => lhs; rw [← h1]
            rw [show 256 ^ k * (x / 256 ^ k) = 256 ^ j * (256 * (256 ^ d * (x / 256 ^ k))) by rw [e1]; simp [Nat.mul_assoc]]
            rw [Nat.mul_add_div (Nat.pow_pos (by omega))]
          rw [e2, Nat.mul_add_mod]
        simp only [be]
        rw [e, ih x (by omega)]
    simp only [be, List.cons_append]
    rw [Nat.mod_eq_of_lt hq, Nat.mod_eq_of_lt hq']
    by_cases he : u / 256 ^ k = u' / 256 ^ k
    · rw [he, bl_eq, hbe k u (Nat.le_refl _), hbe k u' (Nat.le_refl _)]
      rw [be_less k _ _ s t hm hm' (fun e => hne (by rw [← hu, ← hu', he, e]))]
      rw [← hu, ← hu', he]
      simp
    · rw [bl_ne (fun e => he (u8_eq hq hq' e))]
      apply decide_eq_decide.2
      rw [u8_lt hq hq']
      constructor
      · intro hlt
        have : 256 ^ k * (u / 256 ^ k + 1) ≤ 256 ^ k * (u' / 256 ^ k) := Nat.mul_le_mul_left _ hlt
        rw [Nat.mul_add] at this
        omega
      · intro hlt
        rcases Nat.lt_or_ge (u / 256 ^ k) (u' / 256 ^ k) with hx | hx
        · exact hx
        · have : 256 ^ k * (u' / 256 ^ k + 1) ≤ 256 ^ k * (u / 256 ^ k) := Nat.mul_le_mul_left _ (by omega)
          rw [Nat.mul_add] at this
          omega
theorem esc_nz (c : UInt8) (t : List UInt8) (h : c ≠ 0) : esc (c :: t) = c :: esc t := by simp [esc, h]
theorem esc_z (t : List UInt8) : esc (0 :: t) = 0 :: 255 :: esc t := rfl
theorem u8_pos {c : UInt8} (h : c ≠ 0) : (0 : UInt8) < c := by
  rw [UInt8.lt_iff_toNat_lt]
  have : c.toNat ≠ 0 := fun e => h (UInt8.toNat_inj.1 e)
  show 0 < c.toNat
  omega
theorem u8_npos {c : UInt8} : ¬ c < (0 : UInt8) := by
  rw [UInt8.lt_iff_toNat_lt]
  show ¬ c.toNat < 0
  omega
theorem esc_less : ∀ (t t' s s' : List UInt8), t ≠ t' → bl (esc t ++ 0 :: 1 :: s) (esc t' ++ 0 :: 1 :: s') = bl t t'
  | [], [], s, s', h => absurd rfl h
  | [], c :: t', s, s', h => by
    by_cases hc : c = 0
    · subst hc; rw [esc_z]; simp only [esc, List.nil_append, List.cons_append]; rw [bl_eq, bl_ne (by decide)]; rfl
    · rw [esc_nz c t' hc]; simp only [esc, List.nil_append, List.cons_append]; rw [bl_ne (Ne.symm hc), bl_nc]; simpa using u8_pos hc
  | c :: t, [], s, s', h => by
    by_cases hc : c = 0
    · subst hc; rw [esc_z]; simp only [esc, List.nil_append, List.cons_append]; rw [bl_eq, bl_ne (by decide)]; rfl
    · rw [esc_nz c t hc]; simp only [esc, List.nil_append, List.cons_append]; rw [bl_ne hc, bl_nil]; simp
  | c :: t, c' :: t', s, s', h => by
    by_cases he : c = c'
    · subst he
      have hne : t ≠ t' := fun e => h (by rw [e])
      have ih := esc_less t t' s s' hne
      by_cases hc : c = 0
      · subst hc; rw [esc_z, esc_z]; simp only [List.cons_append]; rw [bl_eq, bl_eq, bl_eq, ih]
      · rw [esc_nz c t hc, esc_nz c t' hc]; simp only [List.cons_append]; rw [bl_eq, bl_eq, ih]
    · rw [bl_ne he]
      by_cases hc : c = 0
      · subst hc
        rw [esc_z, esc_nz c' t' (Ne.symm he)]; simp only [List.cons_append]; rw [bl_ne he]
      · by_cases hc' : c' = 0
        · subst hc'
          rw [esc_z, esc_nz c t hc]; simp only [List.cons_append]; rw [bl_ne he]
        · rw [esc_nz c t hc, esc_nz c' t' hc']; simp only [List.cons_append]; rw [bl_ne he]
def good (v : V) : Prop := mayB v = true ∧ i64r v.n
theorem good_k {v : V} (h : mayB v = true) : (v.k = 0 ∧ v.n = 0 ∧ v.t = []) ∨ (v.k = 1 ∧ (v.n = 0 ∨ v.n = 1) ∧ v.t = []) ∨ (v.k = 2 ∧ v.t = []) ∨ (v.k = 3 ∧ v.n = 0) := by
  unfold mayB at h
  split at h
  · simp at h; simp [*]
  split at h
  · simp at h; simp [*]
  split at h
  · simp at h; simp [*]
  split at h
  · simp at h; simp [*]
  · cases h
theorem toN (n : Int) (h : i64r n) : (n + 9223372036854775808).toNat < 256 ^ 8 := by unfold i64r at h; omega
def lessV (x y : V) : Bool := if x.k = y.k then (if x.k = 3 then Op.bytesLess x.t y.t else decide (x.n < y.n)) else decide (x.k < y.k)
theorem kone_less (v v' : V) (s t : List UInt8) (h : good v) (h' : good v') (hne : v ≠ v') : bl (kone v ++ s) (kone v' ++ t) = lessV v v' := by
  obtain ⟨hm, hn⟩ := h
  obtain ⟨hm', hn'⟩ := h'
  obtain ⟨k, n, x⟩ := v
  obtain ⟨k', n', x'⟩ := v'
  have g := good_k hm
  have g' := good_k hm'
  dsimp only at g g' hn hn'
  unfold lessV
  dsimp only
  rcases g with ⟨rfl, rfl, rfl⟩ | ⟨rfl, rfl | rfl, rfl⟩ | ⟨rfl, rfl⟩ | ⟨rfl, rfl⟩ <;> rcases g' with ⟨rfl, rfl, rfl⟩ | ⟨rfl, rfl | rfl, rfl⟩ | ⟨rfl, rfl⟩ | ⟨rfl, rfl⟩ <;>
    first
    | exact absurd rfl hne
    | rfl
    | skip
  · have hnn : n ≠ n' := fun e => hne (by rw [e])
    show bl (3 :: (be 8 (n + 9223372036854775808).toNat ++ s)) (3 :: (be 8 (n' + 9223372036854775808).toNat ++ t)) = decide (n < n')
    rw [bl_eq, be_less 8 _ _ _ _ (toN n hn) (toN n' hn') (fun e => hnn (by unfold i64r at hn hn'; omega))]
    apply decide_eq_decide.2
    unfold i64r at hn hn'
    omega
  · have hx : x ≠ x' := fun e => hne (by rw [e])
    show bl (4 :: ((esc x ++ [0, 1]) ++ s)) (4 :: ((esc x' ++ [0, 1]) ++ t)) = bl x x'
    rw [bl_eq, List.append_assoc, List.append_assoc]
    exact esc_less x x' s t hx
set_option maxRecDepth 100000 in
theorem Less_any (x y : V) (w : World) :
    Calls Try.prog 25 #[va x, va y] w fun e w' => e = .returned (.bool (lessV x y)) ∧ Below w.heap.size w w' := by
  obtain ⟨a, b, c⟩ := x
  obtain ⟨a', b', c'⟩ := y
  unfold lessV
  dsimp only
  by_cases h : a = a'
  · subst h
    rw [if_pos rfl]
    by_cases h3 : a = 3
    · subst h3
      rw [if_pos rfl]
      go_enter Try.func25, Try.ntmps25
      go_wp2
      go_ret
      exact ⟨rfl, by go_grown⟩
    · rw [if_neg h3]
      have hI : ((a : Int) == 3) = false := by simp; omega
      clear h3
      go_enter Try.func25, Try.ntmps25
      go_wp2
      go_ret
      exact ⟨rfl, by go_grown⟩
  · rw [if_neg h]
    have hI : ((a : Int) != (a' : Int)) = true := by simp; omega
    clear h
    go_enter Try.func25, Try.ntmps25
    go_wp2
    go_ret
    exact ⟨by simp, by go_grown⟩
theorem less_same {v : V} : lessV v v = false := by
  unfold lessV; rw [if_pos rfl]; split
  · exact bl_self _
  · simp
/-- what the program compares -/
def lessB (a b : V) : Bool := bl (kapp [] [a]).1 (kapp [] [b]).1
theorem lessB_eq {a b : V} (ha : good a) (hb : good b) : lessB a b = lessV a b := by
  have h : ∀ v : V, good v → (kapp [] [v]).1 = kone v := fun v h => by unfold kapp; simp [h.1]
  unfold lessB
  rw [h a ha, h b hb]
  by_cases he : a = b
  · subst he; rw [bl_self, less_same]
  · have := kone_less a b [] [] ha hb he
    rwa [List.append_nil, List.append_nil] at this
end Go.Proofs.Ythkpgjcnnfdibaa

/-! The walks of bytes.Compare and of column.Bounds (layer 6). For texts of at most 1000000 bytes. -/
namespace Go.Proofs.Ythkpgjcnnfdibaa
open Go.RowKit Go.Maps
set_option linter.unusedVariables false
set_option linter.unusedSimpArgs false

theorem cmp_less : ∀ a b : List UInt8, decide (Lib.compareBytes a b < 0) = bl a b
  | [], [] => rfl
  | [], _ :: _ => rfl
  | _ :: _, [] => rfl
  | x :: a, y :: b => by
    unfold Lib.compareBytes
    by_cases h1 : x < y
    · rw [if_pos h1, bl_ne (fun e => by subst e; exact UInt8.lt_irrefl x h1)]; simp [h1]
    rw [if_neg h1]
    by_cases h2 : y < x
    · rw [if_pos h2, bl_ne (fun e => by subst e; exact h1 h2)]; simp [h1]
    rw [if_neg h2]
    have h3 : x = y := by
      rcases Nat.lt_trichotomy x.toNat y.toNat with h | h | h
      · exact absurd (UInt8.lt_iff_toNat_lt.2 h) h1
      · exact UInt8.toNat_inj.1 h
      · exact absurd (UInt8.lt_iff_toNat_lt.2 h) h2
    subst h3
    rw [bl_eq]; exact cmp_less a b
theorem run_loadBytes {P : Program} (w : World) (b : Nat) : ∀ (l acc : List UInt8) (o : Nat), (∀ j u, (cells l)[j]? = some u → w.cell? ⟨b, o + j, none⟩ = some u) →
    (Extern.Bytes.loadBytes ⟨b, o, none⟩ l.length ⟨acc.toArray⟩).run P w = .ok ⟨(acc ++ l).toArray⟩ w
  | [], acc, o, _ => by simp [Extern.Bytes.loadBytes]
  | c :: l, acc, o, h => by
    have h0 := h 0 (b8 c) rfl
    rw [Nat.add_zero] at h0
    have ha : ((⟨b, o, none⟩ : Addr).add 1) = ⟨b, o + 1, none⟩ := by simp [Addr.add]
    have hp : (ByteArray.mk acc.toArray).push c = ⟨(acc ++ [c]).toArray⟩ := by simp [ByteArray.push]
    have ih := run_loadBytes (P := P) w b l (acc ++ [c]) (o + 1) (fun j u hu => by rw [Nat.add_assoc, Nat.add_comm 1 j]; exact h (j + 1) u hu)
    rw [List.length_cons]
    unfold Extern.Bytes.loadBytes
    rw [Sem.run_bind, run_load, h0]
    simp only [Result.andThen]
    rw [ha, show ((c.toNat : Int)).toNat.toUInt8 = c by simp, hp, ih, List.append_assoc]
    rfl
theorem run_bytesOf {P : Program} {w : World} {B : Nat} {A : Option Addr} (c : Nat) {l : List UInt8} (h : Rd w B A (cells l)) : (Extern.Bytes.bytesOf (.slice A l.length c)).run P w = .ok ⟨l.toArray⟩ w := by
  rcases h with h | ⟨b, o, rfl, _, hc⟩
  · have h0 : l = [] := by
      cases l with
      | nil => rfl
      | cons x l => simp at h
    subst h0
    cases A with
    | none => rfl
    | some a => rfl
  · have := run_loadBytes (P := P) w b l [] o hc
    rw [List.nil_append] at this
    exact this
theorem run_compareSl {P : Program} {w : World} {B : Nat} {A A' : Option Addr} (c c' : Nat) {a b : List UInt8} (ha : Rd w B A (cells a)) (hb : Rd w B A' (cells b)) :
    (Extern.BytealgCompare.compare #[.slice A a.length c, .slice A' b.length c']).run P w = .ok (.int .i64 (Lib.compareBytes a b)) w := by
  change Sem.run P (do pure (goInt (Extern.BytealgCompare.cmp (← Extern.Bytes.bytesOf (.slice A a.length c)) (← Extern.Bytes.bytesOf (.slice A' b.length c'))))) w = _
  simp only [Sem.run_bind, run_bytesOf c ha, run_bytesOf c' hb, Sem.run_pure, Result.andThen]
  rw [Lib.cmp_eq]
  rfl
set_option maxRecDepth 100000 in
theorem Compare_any (B : Nat) (A A' : Option Addr) (c c' : Nat) (a b : List UInt8) (w : World) (ha : Rd w B A (cells a)) (hb : Rd w B A' (cells b)) :
    Calls Try.prog 83 #[.slice A a.length c, .slice A' b.length c'] w fun e w' => e = .returned (.int .i64 (Lib.compareBytes a b)) ∧ w = w' := by
  have R0 := run_compareSl (P := Try.prog) c c' ha hb
  go_enter Try.func83, Try.ntmps83
  go_wp2
  rw [run_callFunc_extern Try.func103 (by kernel_rfl) (by kernel_rfl) (by kernel_rfl) (e := Extern.BytealgCompare.compare) (by kernel_rfl), R0]
  simp only [Result.andThen]
  rw [Oper.upon_value]
  go_wp2
  go_ret
  exact ⟨rfl, rfl⟩

/-- what is asked of a value's parts -/
def vsm (v : V) : Prop := v.k < 256 ∧ i64r v.n ∧ v.t.length ≤ 1000000
set_option maxHeartbeats 1000000 in
set_option maxRecDepth 100000 in
theorem less_any (a b : V) (ha : vsm a) (hb : vsm b) (w : World) :
    Calls Try.prog 82 #[va a, va b] w fun e w' => e = .returned (.bool (lessB a b)) ∧ Below w.heap.size w w' := by
  have hv : ∀ (v : V) (W : World), Rd (W.alloc (.cells #[.int .u8 (v.k : Int), .int .i64 v.n, txt v.t] 46)) (W.heap.size + 1) (some ⟨W.heap.size, 0, none⟩) (vcells [v]) := fun v W => by
    have h := cv_three (T := 46) (w := W) v rfl
    simpa [vcells] using h
  have K0 := fun (v : V) (h : vsm v) (W : World) => Append_any (W.heap.size + 1) none (some ⟨W.heap.size, 0, none⟩) 0 1 [] [v] (W.alloc (.cells #[.int .u8 (v.k : Int), .int .i64 v.n, txt v.t] 46)) (.inl rfl) (hv v W) (by simp) (by
      have hle := kone_le3 v
      have := h.2.2
      simp; omega) (by simp) (by
    intro u hu; simp at hu; subst hu; exact ⟨h.1, h.2.1⟩)
  have K1 := K0 a ha ((w.alloc (.cells #[.int .u8 (a.k : Int), .int .i64 a.n, txt a.t] 46)).alloc (.cells #[.int .u8 (b.k : Int), .int .i64 b.n, txt b.t] 46))
  have K2 := K0 b hb
  simp only [List.length_nil, List.length_cons, Nat.zero_add, World.size_alloc] at K1 K2
  have hcl := cmp_less (kapp [] [a]).1 (kapp [] [b]).1
  have hl : lessB a b = bl (kapp [] [a]).1 (kapp [] [b]).1 := rfl
  rw [← hl] at hcl
  clear hl
  obtain ⟨y, hy⟩ : ∃ y, y = lessB a b := ⟨_, rfl⟩
  rw [← hy] at hcl ⊢
  clear hy
  generalize kapp [] [a] = r at *
  generalize kapp [] [b] = r' at *
  obtain ⟨x1, e1⟩ := r
  obtain ⟨x2, e2⟩ := r'
  dsimp only at hcl
  have HK1 := Lib.hid K1
  have HK2 := Lib.hid K2
  have HCL := Lib.hid hcl
  clear K0 K1 K2 hv hcl ha hb
  obtain ⟨k, n, t⟩ := a
  obtain ⟨k', n', t'⟩ := b
  dsimp only at HK1 HK2
  go_enter Try.func82, Try.ntmps82
  go_wp2_with fail
  refine HK1.out.mono ?_; rintro e w1 ⟨A1, c1, rfl, hown1, hb1⟩
  dsimp only at hown1
  dsimp only
  obtain ⟨w0, hw0⟩ : ∃ w0, w0 = (w.alloc (.cells #[.int .u8 (k : Int), .int .i64 n, txt t] 46)).alloc (.cells #[.int .u8 (k' : Int), .int .i64 n', txt t'] 46) := ⟨_, rfl⟩
  rw [← hw0] at hb1
  have hb0 : Below w.heap.size w w0 := by rw [hw0]; exact ((Below.refl _ _).alloc (Nat.le_refl _) _).alloc (by simp) _
  have hz0 : w0.heap.size = w.heap.size + 2 := by rw [hw0]; simp
  obtain ⟨d0, d1, d2⟩ := cv_block (w.alloc (.cells #[.int .u8 (k : Int), .int .i64 n, txt t] 46)) (.int .u8 (k' : Int)) (.int .i64 n') (txt t') 46
  rw [← hw0, World.size_alloc] at d0 d1 d2
  have hb01 := (Below.refl w0.heap.size w0).alloc (Nat.le_refl _) (.cells #[.int .u8 (k : Int), .int .i64 n, txt t] 46)
  have hb02 : Below w0.heap.size w0 w1 := hb01.trans (hb1.mono (by simp))
  have q0 := cell_be d0 hb02 (cell_lt d0)
  have q1 := cell_be d1 hb02 (cell_lt d1)
  have q2 := cell_be d2 hb02 (cell_lt d2)
  have hz1 := hb02.size
  clear d0 d1 d2 hw0 hb01 hb1
  go_wp2_with fail
  refine (HK2.out _).mono ?_; rintro e w2 ⟨A2, c2, rfl, hown2, hb2⟩
  dsimp only at hown2
  dsimp only
  have hb12 : Below w1.heap.size w1 w2 := ((Below.refl w1.heap.size w1).alloc (Nat.le_refl _) _).trans (hb2.mono (by simp))
  have hr1 := (rd_own hown1).below hb12
  have hr2 := rd_own hown2
  have hz2 := hb12.size
  have C0 := Compare_any w2.heap.size A1 A2 c1 c2 x1 x2 w2 (hr1.more hz2) hr2
  have HC := Lib.hid C0
  have hbf : Below w.heap.size w w2 := (hb0.trans (hb02.mono (by omega))).trans (hb12.mono (by omega))
  clear C0 q0 q1 q2
  go_wp2_with fail
  refine HC.out.mono ?_; rintro e w3 ⟨rfl, rfl⟩
  go_wp2_with fail
  go_ret
  exact ⟨by rw [← HCL.out]; rfl, hbf⟩
end Go.Proofs.Ythkpgjcnnfdibaa

/-! The walk of column.Bounds (layer 6). For texts of at most 1000000 bytes. -/
namespace Go.Proofs.Ythkpgjcnnfdibaa
open Go.RowKit Go.Maps
set_option linter.unusedVariables false
set_option linter.unusedSimpArgs false

def bstep (p : V × V) (v : V) : V × V := if v.k = 0 then p else (if p.1.k = 0 ∨ lessB v p.1 = true then v else p.1, if p.2.k = 0 ∨ lessB p.2 v = true then v else p.2)
def bnds (l : List V) : V × V := l.foldl bstep (null, null)
theorem bnds_snoc {l : List V} {k : Nat} {v : V} (h : l[k]? = some v) : bnds (l.take (k + 1)) = bstep (bnds (l.take k)) v := by
  unfold bnds
  rw [List.take_add_one, h, List.foldl_append]; rfl
theorem three_other {w : World} {k j : Nat} {o : Obj} (h : w.heap[j]? = some o) (hne : j ≠ k) (x0 x1 x2 : Value) :
    (((w.setCell ⟨k, 0, none⟩ x0).setCell ⟨k, 1, none⟩ x1).setCell ⟨k, 2, none⟩ x2).heap[j]? = some o := by
  rw [heap_setCell_other _ _ _ _ hne, heap_setCell_other _ _ _ _ hne, heap_setCell_other _ _ _ _ hne]; exact h
theorem drew_heap (W : World) : W.drew.heap = W.heap := rfl
abbrev cells3 (v : V) : Obj := .cells #[.int .u8 (v.k : Int), .int .i64 v.n, txt v.t] 46 (0, 0)
theorem block_al {w : World} {k : Nat} {o : Obj} (h : w.heap[k]? = some o) (o' : Obj) : (w.alloc o').heap[k]? = some o := (Below.heap_alloc w o' k (lt_of_block h)).trans h

set_option maxHeartbeats 8000000 in
set_option maxRecDepth 100000 in
theorem bounds_any (B : Nat) (A : Option Addr) (c : Nat) (l : List V) (w : World) (hl : Rd w B A (vcells l)) (hB : B ≤ w.heap.size) (hll : l.length ≤ 4294967296) (hok : ∀ v ∈ l, vsm v) :
    Calls Try.prog 46 #[.slice A l.length c] w fun e w' => e = .returned (.tuple #[va (bnds l).1, va (bnds l).2]) ∧ Below w.heap.size w w' := by
  have HOK := Lib.hid hok
  clear hok
  go_enter Try.func46, Try.ntmps46
  go_wp2_with fail
  obtain ⟨w0, hw0⟩ : ∃ w0, w0 = (((w.alloc (cells3 null)).alloc (cells3 null)).alloc (cells3 null)).alloc (cells3 null) := ⟨_, rfl⟩
  have g0 : w0.heap[w.heap.size]? = some (cells3 null) := by rw [hw0]; exact block_al (block_al (block_al (heap_alloc_new w _) _) _) _
  have g1 : w0.heap[w.heap.size + 1]? = some (cells3 null) := by
    have h := block_al (block_al (heap_alloc_new (w.alloc (cells3 null)) (cells3 null)) (cells3 null)) (cells3 null)
    rw [World.size_alloc] at h; rw [hw0]; exact h
  have g2 : w0.heap[w.heap.size + 1 + 1]? = some (cells3 null) := by
    have h := block_al (heap_alloc_new ((w.alloc (cells3 null)).alloc (cells3 null)) (cells3 null)) (cells3 null)
    rw [World.size_alloc, World.size_alloc] at h; rw [hw0]; exact h
  have g3 : w0.heap[w.heap.size + 1 + 1 + 1]? = some (cells3 null) := by
    have h := heap_alloc_new (((w.alloc (cells3 null)).alloc (cells3 null)).alloc (cells3 null)) (cells3 null)
    rw [World.size_alloc, World.size_alloc, World.size_alloc] at h; rw [hw0]; exact h
  have gb : Below w.heap.size w w0 := by rw [hw0]; exact ((((Below.refl _ _).alloc (Nat.le_refl _) _).alloc (by simp) _).alloc (by simp; omega) _).alloc (by simp; omega) _
  have hw0' : w0 = (((w.alloc (.cells #[.int .u8 0, .int .i64 0, .string ⟨#[]⟩] 46)).alloc (.cells #[.int .u8 0, .int .i64 0, .string ⟨#[]⟩] 46)).alloc (.cells #[.int .u8 0, .int .i64 0, .string ⟨#[]⟩] 46)).alloc (.cells #[.int .u8 0, .int .i64 0, .string ⟨#[]⟩] 46) := hw0
  rw [← hw0']
  obtain ⟨p, hp⟩ : ∃ p, p = w.heap.size := ⟨_, rfl⟩
  rw [← hp] at g0 g1 g2 g3 gb hB ⊢
  have hpw : p ≤ w.heap.size := by omega
  have hpw2 : w.heap.size ≤ p := by omega
  clear hw0 hw0' hp
  go_loopw [11] (fun v11 wr => ∃ (k : Nat) (x y : V), k ≤ l.length ∧ v11 = .int .i64 k ∧ bnds (l.take k) = (x, y) ∧ vsm x ∧ vsm y ∧ (x.k = 0 ↔ y.k = 0) ∧ wr.heap[p]? = some (cells3 null) ∧ wr.heap[p + 1]? = some (cells3 null) ∧ wr.heap[p + 1 + 1]? = some (cells3 x) ∧ wr.heap[p + 1 + 1 + 1]? = some (cells3 y) ∧ Below p w wr) (fun v11 _ => l.length - (intOf v11).toNat)
  case atStart => exact ⟨0, null, null, by omega, rfl, rfl, by unfold vsm i64r null; simp, by unfold vsm i64r null; simp, Iff.rfl, g0, g1, g2, g3, gb⟩
  case round =>
    clear g0 g1 g2 g3 gb
    obtain ⟨k, x, y, hk, rfl, hbx, hx, hy, hxy, h0, h1, h2, h3, hbel⟩ := hrel
    have HBX := Lib.hid hbx
    have hzr : p ≤ wr.heap.size := Nat.le_trans hpw hbel.size
    have hrl := hl.below (hbel.mono hB)
    clear hbx
    by_cases hlt : k < l.length
    case neg =>
      have hkl : k = l.length := by omega
      have hE : bnds l = (x, y) := by have h := HBX.out; rw [hkl, List.take_length] at h; exact h
      have HE := Lib.hid hE
      obtain ⟨a0, a1, a2⟩ := three_cells h2
      obtain ⟨b0, b1, b2⟩ := three_cells h3
      obtain ⟨c0, c1, c2⟩ := three_cells h0
      obtain ⟨d0, d1, d2⟩ := three_cells h1
      obtain ⟨n0, n1, n2⟩ := three_free h0
      obtain ⟨o0, o1, o2⟩ := three_free h1
      have H0 := Lib.hid h0
      have H1 := Lib.hid h1
      have H2 := Lib.hid h2
      have H3 := Lib.hid h3
      clear hE h0 h1 h2 h3 hkl
      go_wp2_with fail
      refine ah_start 4 (fun w' => w'.heap[p + 1 + 1]? = some (cells3 x) ∧ w'.heap[p + 1 + 1 + 1]? = some (cells3 y)) rfl (by kernel_rfl) ⟨H2.out, H3.out⟩ ?_ ; intro hS
      (refine mv_val 0 (v := ?_) rfl (by kernel_rfl) (by kernel_rfl) (by kernel_rfl) (fun _ _ _ h => h) (by rfl) hS ?_ ?_; rotate_left; (focus (intro w hSw; (try dsimp only at hSw); (obtain ⟨f0, f1, f2⟩ := three_cells hSw.1; obtain ⟨f3, f4, f5⟩ := three_cells hSw.2); go_simp; first | done | with_reducible rfl)); simp only [Act.put, List.setIfInBounds_toArray, List.set_cons_zero, List.set_cons_succ])
      (refine mv_val 1 (v := ?_) rfl (by kernel_rfl) (by kernel_rfl) (by kernel_rfl) (fun _ _ _ h => h) (by rfl) hS ?_ ?_; rotate_left; (focus (intro w hSw; (try dsimp only at hSw); (obtain ⟨f0, f1, f2⟩ := three_cells hSw.1; obtain ⟨f3, f4, f5⟩ := three_cells hSw.2); go_simp; first | done | with_reducible rfl)); simp only [Act.put, List.setIfInBounds_toArray, List.set_cons_zero, List.set_cons_succ])
      refine mv_step 2 rfl (by kernel_rfl) (by rfl) (fun K hK => ?_)
      go_simp
      refine hK _ _ ?_ ?_ <;> clear hK K
      · exact ⟨three_other H2.out (by omega) _ _ _, three_other H3.out (by omega) _ _ _⟩
      replace hS := And.intro (three_other H2.out (show p + 1 + 1 ≠ p by omega) (.int .u8 (x.k : Int)) (.int .i64 x.n) (txt x.t)) (three_other H3.out (show p + 1 + 1 + 1 ≠ p by omega) (.int .u8 (x.k : Int)) (.int .i64 x.n) (txt x.t))
      try simp only [Act.put, List.setIfInBounds_toArray, List.set_cons_zero, List.set_cons_succ]
      have hS2 := And.intro (three_other hS.1 (show p + 1 + 1 ≠ p + 1 by omega) (.int .u8 (y.k : Int)) (.int .i64 y.n) (txt y.t)) (three_other hS.2 (show p + 1 + 1 + 1 ≠ p + 1 by omega) (.int .u8 (y.k : Int)) (.int .i64 y.n) (txt y.t))
      refine mv_step 3 rfl (by kernel_rfl) (by rfl) (fun K hK => ?_)
      go_simp
      refine hK _ _ ?_ ?_ <;> clear hK K
      · simp only [drew_heap]; exact hS2
      try simp only [Act.put, List.setIfInBounds_toArray, List.set_cons_zero, List.set_cons_succ]
      refine wpAnyH_done (by kernel_rfl) ?_ _
      go_wp2_with fail
      have hf0 := three_other (three_set H0.out (.int .u8 (x.k : Int)) (.int .i64 x.n) (txt x.t)) (show p ≠ p + 1 by omega) (.int .u8 (y.k : Int)) (.int .i64 y.n) (txt y.t)
      have hf1 := three_set (three_other H1.out (show p + 1 ≠ p by omega) (.int .u8 (x.k : Int)) (.int .i64 x.n) (txt x.t)) (.int .u8 (y.k : Int)) (.int .i64 y.n) (txt y.t)
      have hbf := three_below (three_below hbel (Nat.le_refl _) (.int .u8 (x.k : Int)) (.int .i64 x.n) (txt x.t)) (show p ≤ p + 1 by omega) (.int .u8 (y.k : Int)) (.int .i64 y.n) (txt y.t)
      generalize ((((((wr.setCell ⟨p, 0, none⟩ (.int .u8 (x.k : Int))).setCell ⟨p, 1, none⟩ (.int .i64 x.n)).setCell ⟨p, 2, none⟩ (txt x.t)).setCell ⟨p + 1, 0, none⟩ (.int .u8 (y.k : Int))).setCell ⟨p + 1, 1, none⟩ (.int .i64 y.n)).setCell ⟨p + 1, 2, none⟩ (txt y.t)) = wf at *
      obtain ⟨y0, y1, y2⟩ := three_cells hf0
      obtain ⟨y3, y4, y5⟩ := three_cells hf1
      refine bodyPost_ret (v := .tuple #[va x, va y]) (by simp [results, Try.results46, go_sem, y0, y1, y2, y3, y4, y5]) rfl ⟨by rw [HE.out], ?_⟩
      exact hbf.drew.mono hpw2
    obtain ⟨v, hvk⟩ : ∃ v, l[k]? = some v := ⟨_, List.getElem?_eq_getElem hlt⟩
    have hv := HOK.out v (List.mem_of_getElem? hvk)
    have hltI : (k : Int) < (l.length : Int) := by omega
    obtain ⟨bv, ov, rfl, hbv, e0, e1, e2⟩ := rd_val hrl hvk
    have hs := bnds_snoc hvk
    rw [HBX.out] at hs
    have HS := Lib.hid hs
    have hqr : p + 1 + 1 + 1 < wr.heap.size := lt_of_block h3
    have hqr2 : p + 1 + 1 < wr.heap.size := lt_of_block h2
    have R0 := Lib.hid h0
    have R1 := Lib.hid h1
    have R2 := Lib.hid h2
    have R3 := Lib.hid h3
    obtain ⟨A0, A1, A2⟩ := three_cells h2
    obtain ⟨B0, B1, B2⟩ := three_cells h3
    obtain ⟨C0, C1, C2⟩ := three_free h2
    obtain ⟨D0, D1, D2⟩ := three_free h3
    obtain ⟨w3, hw3⟩ : ∃ w3, w3 = wr.alloc (.cells #[.int .u8 (v.k : Int), .int .i64 v.n, txt v.t] 46) := ⟨_, rfl⟩
    obtain ⟨m0, m1, m2⟩ := cv_block wr (.int .u8 (v.k : Int)) (.int .i64 v.n) (txt v.t) 46
    rw [← hw3] at m0 m1 m2
    have hm3 : w3.heap[wr.heap.size]? = some (cells3 v) := by rw [hw3]; exact heap_alloc_new wr _
    have h0 : w3.heap[p]? = some (cells3 null) := by rw [hw3]; exact block_al h0 _
    have h1 : w3.heap[p + 1]? = some (cells3 null) := by rw [hw3]; exact block_al h1 _
    have h2 : w3.heap[p + 1 + 1]? = some (cells3 x) := by rw [hw3]; exact block_al h2 _
    have h3 : w3.heap[p + 1 + 1 + 1]? = some (cells3 y) := by rw [hw3]; exact block_al h3 _
    have bW : Below p w w3 := by rw [hw3]; exact hbel.alloc hzr _
    obtain ⟨a0, a1, a2⟩ := three_cells h2
    obtain ⟨b0, b1, b2⟩ := three_cells h3
    obtain ⟨c0, c1, c2⟩ := three_free h2
    obtain ⟨d0, d1, d2⟩ := three_free h3
    have H0 := Lib.hid h0
    have H1 := Lib.hid h1
    have H2 := Lib.hid h2
    have H3 := Lib.hid h3
    clear hs h0 h1 h2 h3 hvk hrl
    by_cases hv0 : v.k = 0
    · have hvI : ((v.k : Int) == 0) = true := by simp; omega
      have HV0 := Lib.hid hv0
      clear hv0
      go_wp2_with fail
      rw [← hw3]
      go_roundw
      case rel =>
        refine ⟨k + 1, x, y, by omega, by go_num, ?_, hx, hy, hxy, H0.out, H1.out, H2.out, H3.out, bW⟩
        rw [HS.out]; unfold bstep; rw [if_pos HV0.out]
      case measure => simp [intOf]; omega
    have hvI : ((v.k : Int) == 0) = false := by simp; omega
    have hvI2 : ((v.k : Int) == 0) = false := hvI
    obtain ⟨t1, ht1⟩ : ∃ t1, t1 = lessB v x := ⟨_, rfl⟩
    obtain ⟨t2, ht2⟩ : ∃ t2, t2 = lessB y v := ⟨_, rfl⟩
    have L1 := fun w => less_any v x hv hx w
    have L2 := fun w => less_any y v hy hv w
    rw [← ht1] at L1
    rw [← ht2] at L2
    have HL1 := Lib.hid L1
    have HL2 := Lib.hid L2
    have T1 := Lib.hid ht1
    have T2 := Lib.hid ht2
    clear L1 L2 ht1 ht2
    by_cases hx0 : x.k = 0
    · have hy0 := hxy.1 hx0
      have hxI : ((x.k : Int) == 0) = true := by simp; omega
      have hyI : ((y.k : Int) == 0) = true := by simp; omega
      have HX0 := Lib.hid hx0
      have HY0 := Lib.hid hy0
      have HV0 := Lib.hid hv0
      clear hx0 hy0 hv0 hxy
      go_wp2_with fail
      go_roundw
      case rel =>
        refine ⟨k + 1, v, v, by omega, by go_num, ?_, hv, hv, Iff.rfl, ?_, ?_, ?_, ?_, ?_⟩
        · rw [HS.out]; unfold bstep; rw [if_neg HV0.out]; simp [HX0.out, HY0.out]
        · exact block_al (three_other (three_other R0.out (by omega) _ _ _) (by omega) _ _ _) _
        · exact block_al (three_other (three_other R1.out (by omega) _ _ _) (by omega) _ _ _) _
        · exact block_al (three_other (three_set R2.out _ _ _) (by omega) _ _ _) _
        · exact block_al (three_set (three_other R3.out (by omega) _ _ _) _ _ _) _
        · exact (three_below (three_below hbel (by omega) _ _ _) (by omega) _ _ _).alloc (by simp; omega) _
      case measure => simp [intOf]; omega
    have hy0 : ¬ y.k = 0 := fun h => hx0 (hxy.2 h)
    have hxI : ((x.k : Int) == 0) = false := by simp; omega
    have hyI : ((y.k : Int) == 0) = false := by simp; omega
    have HX0 := Lib.hid hx0
    have HY0 := Lib.hid hy0
    have HV0 := Lib.hid hv0
    have HXY := Lib.hid hxy
    clear hx0 hy0 hv0 hxy
    go_wp2_with fail
    refine (HL1.out _).mono ?_; rintro e w4 ⟨rfl, hb4⟩
    rw [← hw3] at hb4
    have h0 := (hb4.block _ (lt_of_block H0.out)).trans H0.out
    have h1 := (hb4.block _ (lt_of_block H1.out)).trans H1.out
    have h2 := (hb4.block _ (lt_of_block H2.out)).trans H2.out
    have h3 := (hb4.block _ (lt_of_block H3.out)).trans H3.out
    have hm := (hb4.block _ (lt_of_block hm3)).trans hm3
    have hb04 : Below p w w4 := bW.trans (hb4.mono (Nat.le_trans hpw bW.size))
    clear hw3 H0 H1 H2 H3 R0 R1 R2 R3 A0 A1 A2 B0 B1 B2 C0 C1 C2 D0 D1 D2 a0 a1 a2 b0 b1 b2 c0 c1 c2 d0 d1 d2 m0 m1 m2 hm3
    cases t1
    · obtain ⟨a0, a1, a2⟩ := three_cells h2
      obtain ⟨b0, b1, b2⟩ := three_cells h3
      obtain ⟨n0, n1, n2⟩ := three_free h2
      obtain ⟨o0, o1, o2⟩ := three_free h3
      obtain ⟨m0, m1, m2⟩ := three_cells hm
      have H0 := Lib.hid h0
      have H1 := Lib.hid h1
      have H2 := Lib.hid h2
      have H3 := Lib.hid h3
      have HM := Lib.hid hm
      clear h0 h1 h2 h3 hm
      go_wp2_with fail
      refine (HL2.out _).mono ?_; rintro e w6 ⟨rfl, hb6⟩
      clear a0 a1 a2 b0 b1 b2 n0 n1 n2 o0 o1 o2 m0 m1 m2
      have h0 := H0.out
      have h1 := H1.out
      have h2 := H2.out
      have h3 := H3.out
      have hm := HM.out
      have bW := hb04
      have w5 := w4
      clear H0 H1 H2 H3 HM
      have h0 := (hb6.block _ (lt_of_block h0)).trans h0
      have h1 := (hb6.block _ (lt_of_block h1)).trans h1
      have h2 := (hb6.block _ (lt_of_block h2)).trans h2
      have h3 := (hb6.block _ (lt_of_block h3)).trans h3
      have hm := (hb6.block _ (lt_of_block hm)).trans hm
      have bV : Below p w w6 := bW.trans (hb6.mono (Nat.le_trans hpw bW.size))
      obtain ⟨b0, b1, b2⟩ := three_cells h3
      obtain ⟨n0, n1, n2⟩ := three_free h3
      obtain ⟨m0, m1, m2⟩ := three_cells hm
      have H0 := Lib.hid h0
      have H1 := Lib.hid h1
      have H2 := Lib.hid h2
      have H3 := Lib.hid h3
      clear h0 h1 h2 h3 hm
      cases t2
      · go_wp2_with fail
        go_roundw
        case rel =>
          refine ⟨k + 1, x, y, by omega, by go_num, ?_, hx, hy, HXY.out, H0.out, H1.out, H2.out, H3.out, bV⟩
          rw [HS.out]; unfold bstep; rw [if_neg HV0.out]; simp [← T1.out, ← T2.out, HX0.out, HY0.out]
        case measure => simp [intOf]; omega
      · go_wp2_with fail
        go_roundw
        case rel =>
          refine ⟨k + 1, x, v, by omega, by go_num, ?_, hx, hv, ⟨fun h => absurd h HX0.out, fun h => absurd h HV0.out⟩, three_other H0.out (by omega) _ _ _, three_other H1.out (by omega) _ _ _, three_other H2.out (by omega) _ _ _, three_set H3.out _ _ _, three_below bV (by omega) _ _ _⟩
          rw [HS.out]; unfold bstep; rw [if_neg HV0.out]; simp [← T1.out, ← T2.out, HX0.out, HY0.out]
        case measure => simp [intOf]; omega
    · obtain ⟨a0, a1, a2⟩ := three_cells h2
      obtain ⟨b0, b1, b2⟩ := three_cells h3
      obtain ⟨n0, n1, n2⟩ := three_free h2
      obtain ⟨o0, o1, o2⟩ := three_free h3
      obtain ⟨m0, m1, m2⟩ := three_cells hm
      have H0 := Lib.hid h0
      have H1 := Lib.hid h1
      have H2 := Lib.hid h2
      have H3 := Lib.hid h3
      have HM := Lib.hid hm
      clear h0 h1 h2 h3 hm
      go_wp2_with fail
      refine (HL2.out _).mono ?_; rintro e w6 ⟨rfl, hb6⟩
      clear a0 a1 a2 b0 b1 b2 n0 n1 n2 o0 o1 o2 m0 m1 m2
      have h0 := three_other H0.out (show p ≠ p + 1 + 1 by omega) (.int .u8 (v.k : Int)) (.int .i64 v.n) (txt v.t)
      have h1 := three_other H1.out (show p + 1 ≠ p + 1 + 1 by omega) (.int .u8 (v.k : Int)) (.int .i64 v.n) (txt v.t)
      have h2 := three_set H2.out (.int .u8 (v.k : Int)) (.int .i64 v.n) (txt v.t)
      have h3 := three_other H3.out (show p + 1 + 1 + 1 ≠ p + 1 + 1 by omega) (.int .u8 (v.k : Int)) (.int .i64 v.n) (txt v.t)
      have hm := three_other HM.out (show wr.heap.size ≠ p + 1 + 1 by omega) (.int .u8 (v.k : Int)) (.int .i64 v.n) (txt v.t)
      have bW := three_below hb04 (show p ≤ p + 1 + 1 by omega) (.int .u8 (v.k : Int)) (.int .i64 v.n) (txt v.t)
      generalize (((w4.setCell ⟨p + 1 + 1, 0, none⟩ (.int .u8 (v.k : Int))).setCell ⟨p + 1 + 1, 1, none⟩ (.int .i64 v.n)).setCell ⟨p + 1 + 1, 2, none⟩ (txt v.t)) = w5 at *
      clear H0 H1 H2 H3 HM
      have h0 := (hb6.block _ (lt_of_block h0)).trans h0
      have h1 := (hb6.block _ (lt_of_block h1)).trans h1
      have h2 := (hb6.block _ (lt_of_block h2)).trans h2
      have h3 := (hb6.block _ (lt_of_block h3)).trans h3
      have hm := (hb6.block _ (lt_of_block hm)).trans hm
      have bV : Below p w w6 := bW.trans (hb6.mono (Nat.le_trans hpw bW.size))
      obtain ⟨b0, b1, b2⟩ := three_cells h3
      obtain ⟨n0, n1, n2⟩ := three_free h3
      obtain ⟨m0, m1, m2⟩ := three_cells hm
      have H0 := Lib.hid h0
      have H1 := Lib.hid h1
      have H2 := Lib.hid h2
      have H3 := Lib.hid h3
      clear h0 h1 h2 h3 hm
      cases t2
      · go_wp2_with fail
        go_roundw
        case rel =>
          refine ⟨k + 1, v, y, by omega, by go_num, ?_, hv, hy, ⟨fun h => absurd h HV0.out, fun h => absurd h HY0.out⟩, H0.out, H1.out, H2.out, H3.out, bV⟩
          rw [HS.out]; unfold bstep; rw [if_neg HV0.out]; simp [← T1.out, ← T2.out, HX0.out, HY0.out]
        case measure => simp [intOf]; omega
      · go_wp2_with fail
        go_roundw
        case rel =>
          refine ⟨k + 1, v, v, by omega, by go_num, ?_, hv, hv, Iff.rfl, three_other H0.out (by omega) _ _ _, three_other H1.out (by omega) _ _ _, three_other H2.out (by omega) _ _ _, three_set H3.out _ _ _, three_below bV (by omega) _ _ _⟩
          rw [HS.out]; unfold bstep; rw [if_neg HV0.out]; simp [← T1.out, ← T2.out, HX0.out, HY0.out]
        case measure => simp [intOf]; omega
end Go.Proofs.Ythkpgjcnnfdibaa

/- Plain laws of layer 5: changes, runs, and how they are told and read. No program in sight. -/
import Derived.Test.YtiijnfakphhbeaaVrs
import Derived.Test.YtiijnfakphhbeaaBas
namespace Go.Proofs.Ytiijnfakphhbeaa.In
open Go.RowKit
set_option linter.unusedVariables false

/-- is it an int64? -/
def i64 (v : Int) : Prop := -9223372036854775808 ≤ v ∧ v ≤ 9223372036854775807
theorem i64_wrap (v : Int) : i64 (wrap64 v) := by unfold i64 wrap64; omega
theorem i64_zero : i64 0 := by unfold i64; omega
/-- the changes of a row, behind the last number and the last step -/
def chg (last step : Int) : List Int → List Int
  | [] => []
  | v :: l => wrap64 (wrap64 (v - last) - step) :: chg v (wrap64 (v - last)) l
/-- the row of changes -/
def unchg (last step : Int) : List Int → List Int
  | [] => []
  | c :: l => wrap64 (last + wrap64 (step + c)) :: unchg (wrap64 (last + wrap64 (step + c))) (wrap64 (step + c)) l
theorem chg_length : ∀ (l : List Int) (a s : Int), (chg a s l).length = l.length
  | [], _, _ => rfl
  | v :: l, a, s => by simp [chg, chg_length l]
theorem unchg_length : ∀ (l : List Int) (a s : Int), (unchg a s l).length = l.length
  | [], _, _ => rfl
  | v :: l, a, s => by simp [unchg, unchg_length l]
theorem chg_i64 : ∀ (l : List Int) (a s : Int), ∀ c ∈ chg a s l, i64 c
  | [], _, _ => by simp [chg]
  | v :: l, a, s => by
    intro c hc
    rcases List.mem_cons.1 hc with rfl | hc
    · exact i64_wrap _
    · exact chg_i64 l _ _ c hc
theorem unchg_i64 : ∀ (l : List Int) (a s : Int), ∀ c ∈ unchg a s l, i64 c
  | [], _, _ => by simp [unchg]
  | v :: l, a, s => by
    intro c hc
    rcases List.mem_cons.1 hc with rfl | hc
    · exact i64_wrap _
    · exact unchg_i64 l _ _ c hc
theorem unchg_chg : ∀ (l : List Int) (a s : Int), (∀ v ∈ l, i64 v) → i64 a → i64 s → unchg a s (chg a s l) = l
  | [], _, _, _, _, _ => rfl
  | v :: l, a, s, h, ha, hs => by
    have hv := h v (List.mem_cons_self ..)
    have e1 : wrap64 (s + wrap64 (wrap64 (v - a) - s)) = wrap64 (v - a) := by unfold i64 at *; unfold wrap64; omega
    have e2 : wrap64 (a + wrap64 (v - a)) = v := by unfold i64 at *; unfold wrap64; omega
    simp only [chg, unchg, e1, e2]
    rw [unchg_chg l v _ (fun x hx => h x (List.mem_cons_of_mem _ hx)) hv (i64_wrap _)]
theorem chg_unchg : ∀ (l : List Int) (a s : Int), (∀ v ∈ l, i64 v) → i64 a → i64 s → chg a s (unchg a s l) = l
  | [], _, _, _, _, _ => rfl
  | c :: l, a, s, h, ha, hs => by
    have hc := h c (List.mem_cons_self ..)
    have e1 : wrap64 (wrap64 (a + wrap64 (s + c)) - a) = wrap64 (s + c) := by unfold i64 at *; unfold wrap64; omega
    have e2 : wrap64 (wrap64 (s + c) - s) = c := by unfold i64 at *; unfold wrap64; omega
    simp only [chg, unchg, e1, e2]
    rw [chg_unchg l _ _ (fun x hx => h x (List.mem_cons_of_mem _ hx)) (i64_wrap _) (i64_wrap _)]
/-- the last number and the last step of changes -/
def lst (a s : Int) : List Int → Int × Int
  | [] => (a, s)
  | c :: l => lst (wrap64 (a + wrap64 (s + c))) (wrap64 (s + c)) l
theorem unchg_append : ∀ (l m : List Int) (a s : Int), unchg a s (l ++ m) = unchg a s l ++ unchg (lst a s l).1 (lst a s l).2 m
  | [], m, a, s => rfl
  | c :: l, m, a, s => by simp [unchg, lst, unchg_append l m]
theorem lst_append : ∀ (l m : List Int) (a s : Int), lst a s (l ++ m) = lst (lst a s l).1 (lst a s l).2 m
  | [], m, a, s => rfl
  | c :: l, m, a, s => by simp [lst, lst_append l m]
theorem unchg_snoc (l : List Int) (c a s : Int) : unchg a s (l ++ [c]) = unchg a s l ++ [wrap64 ((lst a s l).1 + wrap64 ((lst a s l).2 + c))] := by
  rw [unchg_append]; rfl
theorem lst_snoc (l : List Int) (c a s : Int) : lst a s (l ++ [c]) = (wrap64 ((lst a s l).1 + wrap64 ((lst a s l).2 + c)), wrap64 ((lst a s l).2 + c)) := by
  rw [lst_append]; rfl
theorem lst_i64 : ∀ (l : List Int) (a s : Int), i64 a → i64 s → i64 (lst a s l).1 ∧ i64 (lst a s l).2
  | [], a, s, ha, hs => ⟨ha, hs⟩
  | c :: l, a, s, ha, hs => lst_i64 l _ _ (i64_wrap _) (i64_wrap _)

/-- runs of changes, n times ch having come -/
def rl (n : Nat) (ch : Int) : List Int → List (Nat × Int)
  | [] => if n = 0 then [] else [(n, ch)]
  | c :: l => if n ≠ 0 ∧ c ≠ ch then (n, ch) :: rl 1 c l else rl (n + 1) c l
def unrl (R : List (Nat × Int)) : List Int := R.flatMap fun p => List.replicate p.1 p.2
theorem unrl_cons (p : Nat × Int) (R : List (Nat × Int)) : unrl (p :: R) = List.replicate p.1 p.2 ++ unrl R := by simp [unrl]
theorem unrl_rl : ∀ (l : List Int) (n : Nat) (ch : Int), unrl (rl n ch l) = List.replicate n ch ++ l
  | [], n, ch => by
    unfold rl; split
    · rename_i h; subst h; simp [unrl]
    · simp [unrl]
  | c :: l, n, ch => by
    unfold rl; split
    · rw [unrl_cons, unrl_rl l]; simp
    · rename_i h
      rw [unrl_rl l]
      have : n = 0 ∨ c = ch := by
        rcases Nat.eq_zero_or_pos n with h0 | h0
        · exact .inl h0
        · right
          rcases Int.lt_or_le c ch with h1 | h1
          · exact absurd ⟨by omega, by omega⟩ h
          · rcases Int.lt_or_le ch c with h2 | h2
            · exact absurd ⟨by omega, by omega⟩ h
            · omega
      rcases this with rfl | rfl
      · simp
      · rw [List.replicate_succ', List.append_assoc]; rfl
/-- runs as they are told: each has one change or more, and is none of the one ahead -/
def good : Option Int → List (Nat × Int) → Prop
  | _, [] => True
  | p, (n, c) :: R => 1 ≤ n ∧ p ≠ some c ∧ good (some c) R
theorem good_rl : ∀ (l : List Int) (n : Nat) (ch : Int) (p : Option Int), (n ≠ 0 → p ≠ some ch) → (n = 0 → p = none) → good p (rl n ch l)
  | [], n, ch, p, h, h0 => by
    unfold rl; split
    · trivial
    · exact ⟨by omega, h (by assumption), trivial⟩
  | c :: l, n, ch, p, h, h0 => by
    unfold rl; split
    · rename_i hc
      refine ⟨by omega, h hc.1, good_rl l 1 c (some ch) (fun _ => by simp; exact fun e => hc.2 e.symm) (by omega)⟩
    · rename_i hc
      refine good_rl l (n + 1) c p (fun _ => ?_) (by omega)
      by_cases hn : n = 0
      · rw [h0 hn]; simp
      · have e : c = ch := by
          by_cases e : c = ch
          · exact e
          · exact absurd ⟨hn, e⟩ hc
        rw [e]; exact h hn
theorem rl_same : ∀ (m n : Nat) (c : Int) (l : List Int), rl n c (List.replicate m c ++ l) = rl (n + m) c l
  | 0, n, c, l => rfl
  | m + 1, n, c, l => by
    rw [List.replicate_succ, List.cons_append]
    simp only [rl]
    rw [if_neg (by simp), rl_same m, Nat.add_right_comm, Nat.add_assoc]
theorem rl_unrl : ∀ (R : List (Nat × Int)) (p : Option Int), good p R → (∀ (n : Nat) (ch : Int), n ≠ 0 → p = some ch → rl n ch (unrl R) = (n, ch) :: R) ∧ (p = none → ∀ ch, rl 0 ch (unrl R) = R)
  | [], p, _ => ⟨fun n ch hn _ => by simp [unrl, rl, hn], fun _ ch => by simp [unrl, rl]⟩
  | (k, c) :: R, p, ⟨h1, h2, h3⟩ => by
    obtain ⟨k, rfl⟩ := Nat.exists_eq_succ_of_ne_zero (show k ≠ 0 by omega)
    have ih := (rl_unrl R (some c) h3).1
    refine ⟨fun n ch hn hp => ?_, fun hp ch => ?_⟩
    · rw [unrl_cons, List.replicate_succ, List.cons_append]
      simp only [rl]
      have hc : c ≠ ch := by rintro rfl; exact h2 hp
      rw [if_pos ⟨hn, hc⟩, rl_same, ih _ _ (by omega) rfl, Nat.add_comm]
    · rw [unrl_cons, List.replicate_succ, List.cons_append]
      simp only [rl]
      rw [if_neg (by simp), rl_same, ih _ _ (by omega) rfl, Nat.zero_add, Nat.add_comm]
theorem rl_count : ∀ (l : List Int) (n : Nat) (ch : Int), ∀ p ∈ rl n ch l, p.1 ≤ n + l.length
  | [], n, ch, p, hp => by
    unfold rl at hp; split at hp
    · simp at hp
    · simp at hp; subst hp; simp
  | c :: l, n, ch, p, hp => by
    unfold rl at hp; split at hp
    · rcases List.mem_cons.1 hp with rfl | hp
      · simp
      · have := rl_count l 1 c p hp; simp; omega
    · have := rl_count l (n + 1) c p hp; simp; omega
theorem rl_val : ∀ (l : List Int) (n : Nat) (ch : Int), (∀ c ∈ l, i64 c) → (n ≠ 0 → i64 ch) → ∀ p ∈ rl n ch l, i64 p.2
  | [], n, ch, h, hc, p, hp => by
    unfold rl at hp; split at hp
    · simp at hp
    · simp at hp; subst hp; exact hc (by assumption)
  | c :: l, n, ch, h, hc, p, hp => by
    have h1 := h c (List.mem_cons_self ..)
    have h2 : ∀ x ∈ l, i64 x := fun x hx => h x (List.mem_cons_of_mem _ hx)
    unfold rl at hp; split at hp
    · rename_i hn
      rcases List.mem_cons.1 hp with rfl | hp
      · exact hc hn.1
      · exact rl_val l 1 c h2 (fun _ => h1) p hp
    · exact rl_val l (n + 1) c h2 (fun _ => h1) p hp

/-- a run's bytes -/
def enc1 (p : Nat × Int) : List UInt8 := vput p.1 ++ vput (zig p.2).toNat
def iput (l : List Int) : List UInt8 := (rl 0 0 (chg 0 0 l)).flatMap enc1

/-- the changes, and the error -/
def dgetF : Nat → Nat → List Int → List UInt8 → List Int × Nat
  | 0, _, _, _ => ([], 21)
  | f + 1, n, cs, b =>
    if cs.length < n then
      if b = [] then ([], 20)
      else if (vget b).2.2 ≠ 0 then ([], (vget b).2.2)
      else if (vget b).1 = 0 ∨ n - cs.length < (vget b).1 then ([], 21)
      else if (vget (b.drop (vget b).2.1)).2.2 ≠ 0 then ([], (vget (b.drop (vget b).2.1)).2.2)
      else if cs ≠ [] ∧ cs.getLast? = some (zag (vget (b.drop (vget b).2.1)).1) then ([], 21)
      else dgetF f n (cs ++ List.replicate (vget b).1 (zag (vget (b.drop (vget b).2.1)).1)) (b.drop ((vget b).2.1 + (vget (b.drop (vget b).2.1)).2.1))
    else if b ≠ [] then ([], 21) else (cs, 0)
/-- enough fuel is enough -/
theorem dgetF_fuel : ∀ (f g n : Nat) (cs : List Int) (b : List UInt8), n - cs.length < f → n - cs.length < g → dgetF f n cs b = dgetF g n cs b
  | 0, _, _, _, _, h, _ => by omega
  | _, 0, _, _, _, _, h => by omega
  | f + 1, g + 1, n, cs, b, h1, h2 => by
    unfold dgetF
    by_cases hl : cs.length < n
    · rw [if_pos hl, if_pos hl]
      split
      · rfl
      split
      · rfl
      split
      · rfl
      split
      · rfl
      split
      · rfl
      · rename_i hm _ _
        refine dgetF_fuel f g _ _ _ ?_ ?_ <;> (simp only [List.length_append, List.length_replicate]; omega)
    · rw [if_neg hl, if_neg hl]
def dget (n : Nat) (cs : List Int) (b : List UInt8) : List Int × Nat := dgetF (n - cs.length + 1) n cs b
theorem dget_eq (n : Nat) (cs : List Int) (b : List UInt8) : dget n cs b =
    if cs.length < n then
      if b = [] then ([], 20)
      else if (vget b).2.2 ≠ 0 then ([], (vget b).2.2)
      else if (vget b).1 = 0 ∨ n - cs.length < (vget b).1 then ([], 21)
      else if (vget (b.drop (vget b).2.1)).2.2 ≠ 0 then ([], (vget (b.drop (vget b).2.1)).2.2)
      else if cs ≠ [] ∧ cs.getLast? = some (zag (vget (b.drop (vget b).2.1)).1) then ([], 21)
      else dget n (cs ++ List.replicate (vget b).1 (zag (vget (b.drop (vget b).2.1)).1)) (b.drop ((vget b).2.1 + (vget (b.drop (vget b).2.1)).2.1))
    else if b ≠ [] then ([], 21) else (cs, 0) := by
  unfold dget
  conv => lhs; unfold dgetF
  by_cases hl : cs.length < n
  · rw [if_pos hl, if_pos hl]
    split
    · rfl
    split
    · rfl
    split
    · rfl
    split
    · rfl
    split
    · rfl
    · rename_i hm _ _
      refine dgetF_fuel _ _ _ _ _ ?_ ?_ <;> (simp only [List.length_append, List.length_replicate]; omega)
  · rw [if_neg hl, if_neg hl]
def iget (b : List UInt8) (n : Int) : List Int × Nat :=
  if n < 0 ∨ 65536 < n then ([], 1) else (unchg 0 0 (dget n.toNat [] b).1, (dget n.toNat [] b).2)

theorem zig_nat {c : Int} (h : i64 c) : (zig c).toNat < 18446744073709551616 ∧ ((zig c).toNat : Int) = zig c := by
  have := zig_bd c h.1 h.2; omega
theorem vget_enc1 {p : Nat × Int} (h1 : p.1 < 18446744073709551616) (h2 : i64 p.2) (l : List UInt8) :
    vget (enc1 p ++ l) = (p.1, (vput p.1).length, 0) ∧ vget ((enc1 p ++ l).drop (vput p.1).length) = ((zig p.2).toNat, (vput (zig p.2).toNat).length, 0) ∧
    (enc1 p ++ l).drop ((vput p.1).length + (vput (zig p.2).toNat).length) = l ∧ enc1 p ++ l ≠ [] := by
  have e : enc1 p ++ l = vput p.1 ++ (vput (zig p.2).toNat ++ l) := by simp [enc1]
  rw [e]
  refine ⟨vget_vput h1 _, ?_, ?_, ?_⟩
  · rw [List.drop_left, vget_vput (zig_nat h2).1]
  · rw [← List.append_assoc, ← List.length_append, List.drop_left]
  · intro h
    have := congrArg List.length h
    have h3 := vput_pos p.1
    rw [List.length_append, List.length_nil] at this; omega
theorem last_rep (n : Nat) (c : Int) (cs : List Int) (h : 1 ≤ n) : cs ++ List.replicate n c ≠ [] ∧ (cs ++ List.replicate n c).getLast? = some c := by
  obtain ⟨k, rfl⟩ := Nat.exists_eq_succ_of_ne_zero (show n ≠ 0 by omega)
  rw [List.replicate_succ']
  refine ⟨by simp, ?_⟩
  rw [← List.append_assoc, List.getLast?_concat]
def prev (cs : List Int) : Option Int := cs.getLast?
/-- what is told is read, as many as there are; as others it is none -/
theorem dget_enc : ∀ (R : List (Nat × Int)) (cs : List Int) (n : Nat), good cs.getLast? R → (∀ p ∈ R, p.1 < 18446744073709551616 ∧ i64 p.2) → cs.length ≤ n →
    (cs.length + (unrl R).length = n → dget n cs (R.flatMap enc1) = (cs ++ unrl R, 0)) ∧ (cs.length + (unrl R).length ≠ n → (dget n cs (R.flatMap enc1)).2 ≠ 0)
  | [], cs, n, _, _, hn => by
    rw [dget_eq]
    refine ⟨fun h => ?_, fun h => ?_⟩
    · simp [unrl] at h
      rw [if_neg (by omega)]; simp [unrl]
    · simp [unrl] at h
      rw [if_pos (by omega)]; simp
  | (k, c) :: R, cs, n, ⟨h1, h2, h3⟩, hb, hn => by
    obtain ⟨hk, hc⟩ := hb (k, c) (List.mem_cons_self ..)
    have hb' : ∀ p ∈ R, p.1 < 18446744073709551616 ∧ i64 p.2 := fun p hp => hb p (List.mem_cons_of_mem _ hp)
    have e : ((k, c) :: R).flatMap enc1 = enc1 (k, c) ++ R.flatMap enc1 := by simp
    obtain ⟨g1, g2, g3, g4⟩ := vget_enc1 (p := (k, c)) hk hc (R.flatMap enc1)
    have hlast : ¬ (cs ≠ [] ∧ cs.getLast? = some c) := fun h => h2 h.2
    have hz : zag ((zig c).toNat : Int) = c := by rw [(zig_nat hc).2]; exact zag_zig c
    have hul : (unrl ((k, c) :: R)).length = k + (unrl R).length := by rw [unrl_cons]; simp
    have ih := dget_enc R (cs ++ List.replicate k c) n (by rw [(last_rep k c cs h1).2]; exact h3) hb'
    simp only [List.length_append, List.length_replicate] at ih
    rw [hul, e, dget_eq]
    simp only [g1, g2, g3, g4, hz]
    by_cases hl : cs.length < n
    · rw [if_pos hl, if_neg (by simp), if_neg (by simp)]
      by_cases hm : k = 0 ∨ n - cs.length < k
      · rw [if_pos hm]
        exact ⟨fun h => by omega, fun _ => by simp⟩
      · rw [if_neg hm, if_neg (by simp), if_neg hlast]
        have ih2 := ih (by omega)
        refine ⟨fun h => ?_, fun h => ih2.2 (by omega)⟩
        rw [ih2.1 (by omega), unrl_cons, List.append_assoc]
    · rw [if_neg hl]
      refine ⟨fun h => by omega, fun _ => ?_⟩
      simp only [ne_eq, g4, not_false_eq_true, if_true]
      simp
/-- what is read was told so -/
theorem dget_ok : ∀ (f n : Nat) (cs : List Int) (b : List UInt8) (out : List Int), n - cs.length < f → cs.length ≤ n → dget n cs b = (out, 0) →
    ∃ R, good cs.getLast? R ∧ b = R.flatMap enc1 ∧ out = cs ++ unrl R ∧ out.length = n ∧ ∀ p ∈ R, i64 p.2
  | 0, n, cs, b, out, h, _, _ => by omega
  | f + 1, n, cs, b, out, hf, hn, h => by
    rw [dget_eq] at h
    split at h
    · rename_i hl
      split at h
      · simp at h
      split at h
      · rename_i he; simp only [Prod.mk.injEq] at h; exact absurd h.2 he
      split at h
      · simp at h
      split at h
      · rename_i he; simp only [Prod.mk.injEq] at h; exact absurd h.2 he
      split at h
      · simp at h
      rename_i hb he hm he2 hz
      obtain ⟨m, u, hmu⟩ : ∃ m u, vget b = (m, u, 0) := ⟨(vget b).1, (vget b).2.1, by
        refine Prod.ext rfl (Prod.ext rfl ?_); simpa using he⟩
      rw [hmu] at h hm he2 hz
      dsimp only at h hm he2 hz
      obtain ⟨z, q, hzq⟩ : ∃ z q, vget (b.drop u) = (z, q, 0) := ⟨(vget (b.drop u)).1, (vget (b.drop u)).2.1, by
        refine Prod.ext rfl (Prod.ext rfl ?_); simpa using he2⟩
      rw [hzq] at h hz
      dsimp only at h hz
      obtain ⟨a1, a2, a3, a4, a5⟩ := vget_ok hmu
      obtain ⟨b1, b2, b3, b4, b5⟩ := vget_ok hzq
      have hm1 : 1 ≤ m := by omega
      obtain ⟨R, r1, r2, r3, r4, r5⟩ := dget_ok f n _ _ out (by simp; omega) (by simp; omega) h
      have hzz : (zig (zag (z : Int))).toNat = z := by rw [zig_zag _ (by omega)]; omega
      refine ⟨(m, zag z) :: R, ⟨hm1, ?_, ?_⟩, ?_, ?_, r4, ?_⟩
      · intro e
        refine hz ⟨?_, e⟩
        rintro rfl; simp at e
      · rw [(last_rep m _ cs hm1).2] at r1; exact r1
      · rw [List.flatMap_cons, ← r2]
        unfold enc1
        rw [hzz, a4, b4, ← List.drop_drop, List.append_assoc, List.take_append_drop, List.take_append_drop]
      · rw [r3, unrl_cons, List.append_assoc]
      · intro p hp
        rcases List.mem_cons.1 hp with rfl | hp
        · exact zag_bd _ (by omega) (by omega)
        · exact r5 p hp
    · rename_i hl
      split at h
      · simp at h
      rename_i hb
      simp at hb
      simp only [Prod.mk.injEq] at h
      obtain ⟨rfl, _⟩ := h
      refine ⟨[], trivial, by simp [hb], by simp [unrl], by omega, by simp⟩
theorem dget_len {n : Nat} {cs : List Int} {b : List UInt8} (h : cs.length ≤ n) : (dget n cs b).2 = 0 → (dget n cs b).1.length = n := fun h0 => by
  obtain ⟨R, _, _, _, h4, _⟩ := dget_ok (n - cs.length + 1) n cs b (dget n cs b).1 (by omega) h (by rw [← h0])
  exact h4
theorem dget_err : ∀ (f n : Nat) (cs : List Int) (b : List UInt8), (dgetF f n cs b).2 ≠ 0 → (dgetF f n cs b).1 = []
  | 0, n, cs, b, h => rfl
  | f + 1, n, cs, b, h => by
    unfold dgetF at h ⊢
    repeat' (split at h)
    all_goals first | (simp [*]; done) | skip
    all_goals (first
      | (simp_all; done)
      | (rename_i x1 x2 x3 x4 x5 x6; rw [if_pos x1, if_neg x2, if_neg x3, if_neg x4, if_neg x5, if_neg x6]; exact dget_err f n _ _ h))
/-- the row comes back -/
theorem iget_iput (l : List Int) (h : ∀ v ∈ l, i64 v) (hl : l.length ≤ 65536) (n : Int) : iget (iput l) l.length = (l, 0) ∧ ((iget (iput l) n).2 = 0 ↔ n = l.length) := by
  have hc := chg_length l 0 0
  have hR : good none (rl 0 0 (chg 0 0 l)) := good_rl _ _ _ _ (by simp) (by simp)
  have hu : unrl (rl 0 0 (chg 0 0 l)) = chg 0 0 l := by rw [unrl_rl]; rfl
  have hb : ∀ p ∈ rl 0 0 (chg 0 0 l), p.1 < 18446744073709551616 ∧ i64 p.2 := fun p hp => by
    have h1 := rl_count _ _ _ p hp
    exact ⟨by omega, rl_val _ _ _ (chg_i64 l 0 0) (by simp) p hp⟩
  have D := fun m => dget_enc (rl 0 0 (chg 0 0 l)) [] m hR hb (by simp)
  rw [hu, hc] at D
  simp only [List.length_nil, Nat.zero_add, List.nil_append] at D
  constructor
  · unfold iget
    rw [if_neg (by omega), Int.toNat_natCast]
    have := (D l.length).1 rfl
    unfold iput
    rw [this]
    simp only [unchg_chg l 0 0 h i64_zero i64_zero]
  · unfold iget
    by_cases hn : n < 0 ∨ 65536 < n
    · rw [if_pos hn]; simp; omega
    · rw [if_neg hn]
      constructor
      · intro h0
        by_cases e : n = l.length
        · exact e
        · exact absurd h0 ((D n.toNat).2 (by omega))
      · intro e
        subst e
        rw [Int.toNat_natCast]
        have := (D l.length).1 rfl
        unfold iput
        rw [this]
/-- what is got is put as the same bytes -/
theorem iput_iget (b : List UInt8) (n : Int) (h : (iget b n).2 = 0) : 0 ≤ n ∧ n ≤ 65536 ∧ ((iget b n).1.length : Int) = n ∧ iput (iget b n).1 = b ∧ ∀ v ∈ (iget b n).1, i64 v := by
  unfold iget at h ⊢
  split at h
  · simp at h
  · rename_i hn
    rw [if_neg hn]
    dsimp only at h ⊢
    obtain ⟨R, r1, r2, r3, r4, r5⟩ := dget_ok (n.toNat + 1) n.toNat [] b (dget n.toNat [] b).1 (by simp) (by simp) (by rw [← h])
    refine ⟨by omega, by omega, by rw [unchg_length, r4]; omega, ?_, unchg_i64 _ _ _⟩
    have hi : ∀ c ∈ (dget n.toNat [] b).1, i64 c := by
      rw [r3]
      intro c hc
      rw [List.nil_append] at hc
      obtain ⟨p, hp, hc⟩ := List.mem_flatMap.1 hc
      rw [(List.mem_replicate.1 hc).2]
      exact r5 _ hp
    unfold iput
    rw [chg_unchg _ _ _ hi i64_zero i64_zero, r3]
    have := (rl_unrl R none r1).2 rfl 0
    simp only [List.nil_append]
    rw [this]
    exact r2.symm
theorem iget_err (b : List UInt8) (n : Int) (h : (iget b n).2 ≠ 0) : (iget b n).1 = [] := by
  unfold iget at h ⊢
  split
  · rfl
  · rename_i hn
    rw [if_neg hn] at h
    show unchg 0 0 (dget n.toNat [] b).1 = []
    have := dget_err _ _ _ _ h
    unfold dget
    rw [this]; rfl
end Go.Proofs.Ytiijnfakphhbeaa.In

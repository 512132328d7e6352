/- Joined texts: see the remark ahead of each part. No condition but those that the parts name. -/
import Derived.Test.YthkpgjcnnfdibaaVrs
import Derived.Test.YthkpgjcnnfdibaaBas
import Derived.RangeFuncNested
import Derived.RangeFuncBound
import Derived.RangeFuncCalls
import Derived.RangeFuncLeaves
import Derived.RangeFuncBox
import Derived.Shelf.Abstract
import Derived.Shelf.RegionOpen
import Derived.OwnWalkIn
import Derived.TacticsInMore
import Derived.LoopNIn
import Derived.LoopIn
import Derived.Deep.Onto
/-! Plain laws of layer 5: changes, runs, and how they are told and read. No program in sight. -/
namespace Go.Proofs.Ythkpgjcnnfdibaa.In
open Go.RowKit
set_option linter.unusedVariables false

/-- is it an int64? -/
def i64 (v : Int) : Prop := -9223372036854775808 ≤ v ∧ v ≤ 9223372036854775807
theorem i64_wrap (v : Int) : i64 (wrap64 v) := by unfold i64 wrap64; omega
theorem i64_zero : i64 0 := by unfold i64; omega
/-- the changes of a row, behind the last number and the last step -/
def chg (last step : Int) : List Int → List Int
  | [] => []
  | v :: l => wrap64 (wrap64 (v - last) - step) :: chg v (wrap64 (v - last)) l
/-- the row of changes -/
def unchg (last step : Int) : List Int → List Int
  | [] => []
  | c :: l => wrap64 (last + wrap64 (step + c)) :: unchg (wrap64 (last + wrap64 (step + c))) (wrap64 (step + c)) l
theorem chg_length : ∀ (l : List Int) (a s : Int), (chg a s l).length = l.length
  | [], _, _ => rfl
  | v :: l, a, s => by simp [chg, chg_length l]
theorem unchg_length : ∀ (l : List Int) (a s : Int), (unchg a s l).length = l.length
  | [], _, _ => rfl
  | v :: l, a, s => by simp [unchg, unchg_length l]
theorem chg_i64 : ∀ (l : List Int) (a s : Int), ∀ c ∈ chg a s l, i64 c
  | [], _, _ => by simp [chg]
  | v :: l, a, s => by
    intro c hc
    rcases List.mem_cons.1 hc with rfl | hc
    · exact i64_wrap _
    · exact chg_i64 l _ _ c hc
theorem unchg_i64 : ∀ (l : List Int) (a s : Int), ∀ c ∈ unchg a s l, i64 c
  | [], _, _ => by simp [unchg]
  | v :: l, a, s => by
    intro c hc
    rcases List.mem_cons.1 hc with rfl | hc
    · exact i64_wrap _
    · exact unchg_i64 l _ _ c hc
theorem unchg_chg : ∀ (l : List Int) (a s : Int), (∀ v ∈ l, i64 v) → i64 a → i64 s → unchg a s (chg a s l) = l
  | [], _, _, _, _, _ => rfl
  | v :: l, a, s, h, ha, hs => by
    have hv := h v (List.mem_cons_self ..)
    have e1 : wrap64 (s + wrap64 (wrap64 (v - a) - s)) = wrap64 (v - a) := by unfold i64 at *; unfold wrap64; omega
    have e2 : wrap64 (a + wrap64 (v - a)) = v := by unfold i64 at *; unfold wrap64; omega
    simp only [chg, unchg, e1, e2]
    rw [unchg_chg l v _ (fun x hx => h x (List.mem_cons_of_mem _ hx)) hv (i64_wrap _)]
theorem chg_unchg : ∀ (l : List Int) (a s : Int), (∀ v ∈ l, i64 v) → i64 a → i64 s → chg a s (unchg a s l) = l
  | [], _, _, _, _, _ => rfl
  | c :: l, a, s, h, ha, hs => by
    have hc := h c (List.mem_cons_self ..)
    have e1 : wrap64 (wrap64 (a + wrap64 (s + c)) - a) = wrap64 (s + c) := by unfold i64 at *; unfold wrap64; omega
    have e2 : wrap64 (wrap64 (s + c) - s) = c := by unfold i64 at *; unfold wrap64; omega
    simp only [chg, unchg, e1, e2]
    rw [chg_unchg l _ _ (fun x hx => h x (List.mem_cons_of_mem _ hx)) (i64_wrap _) (i64_wrap _)]
/-- the last number and the last step of changes -/
def lst (a s : Int) : List Int → Int × Int
  | [] => (a, s)
  | c :: l => lst (wrap64 (a + wrap64 (s + c))) (wrap64 (s + c)) l
theorem unchg_append : ∀ (l m : List Int) (a s : Int), unchg a s (l ++ m) = unchg a s l ++ unchg (lst a s l).1 (lst a s l).2 m
  | [], m, a, s => rfl
  | c :: l, m, a, s => by simp [unchg, lst, unchg_append l m]
theorem lst_append : ∀ (l m : List Int) (a s : Int), lst a s (l ++ m) = lst (lst a s l).1 (lst a s l).2 m
  | [], m, a, s => rfl
  | c :: l, m, a, s => by simp [lst, lst_append l m]
theorem unchg_snoc (l : List Int) (c a s : Int) : unchg a s (l ++ [c]) = unchg a s l ++ [wrap64 ((lst a s l).1 + wrap64 ((lst a s l).2 + c))] := by
  rw [unchg_append]; rfl
theorem lst_snoc (l : List Int) (c a s : Int) : lst a s (l ++ [c]) = (wrap64 ((lst a s l).1 + wrap64 ((lst a s l).2 + c)), wrap64 ((lst a s l).2 + c)) := by
  rw [lst_append]; rfl
theorem lst_i64 : ∀ (l : List Int) (a s : Int), i64 a → i64 s → i64 (lst a s l).1 ∧ i64 (lst a s l).2
  | [], a, s, ha, hs => ⟨ha, hs⟩
  | c :: l, a, s, ha, hs => lst_i64 l _ _ (i64_wrap _) (i64_wrap _)

/-- runs of changes, n times ch having come -/
def rl (n : Nat) (ch : Int) : List Int → List (Nat × Int)
  | [] => if n = 0 then [] else [(n, ch)]
  | c :: l => if n ≠ 0 ∧ c ≠ ch then (n, ch) :: rl 1 c l else rl (n + 1) c l
def unrl (R : List (Nat × Int)) : List Int := R.flatMap fun p => List.replicate p.1 p.2
theorem unrl_cons (p : Nat × Int) (R : List (Nat × Int)) : unrl (p :: R) = List.replicate p.1 p.2 ++ unrl R := by simp [unrl]
theorem unrl_rl : ∀ (l : List Int) (n : Nat) (ch : Int), unrl (rl n ch l) = List.replicate n ch ++ l
  | [], n, ch => by
    unfold rl; split
    · rename_i h; subst h; simp [unrl]
    · simp [unrl]
  | c :: l, n, ch => by
    unfold rl; split
    · rw [unrl_cons, unrl_rl l]; simp
    · rename_i h
      rw [unrl_rl l]
      have : n = 0 ∨ c = ch := by
        rcases Nat.eq_zero_or_pos n with h0 | h0
        · exact .inl h0
        · right
          rcases Int.lt_or_le c ch with h1 | h1
          · exact absurd ⟨by omega, by omega⟩ h
          · rcases Int.lt_or_le ch c with h2 | h2
            · exact absurd ⟨by omega, by omega⟩ h
            · omega
      rcases this with rfl | rfl
      · simp
      · rw [List.replicate_succ', List.append_assoc]; rfl
/-- runs as they are told: each has one change or more, and is none of the one ahead -/
def good : Option Int → List (Nat × Int) → Prop
  | _, [] => True
  | p, (n, c) :: R => 1 ≤ n ∧ p ≠ some c ∧ good (some c) R
theorem good_rl : ∀ (l : List Int) (n : Nat) (ch : Int) (p : Option Int), (n ≠ 0 → p ≠ some ch) → (n = 0 → p = none) → good p (rl n ch l)
  | [], n, ch, p, h, h0 => by
    unfold rl; split
    · trivial
    · exact ⟨by omega, h (by assumption), trivial⟩
  | c :: l, n, ch, p, h, h0 => by
    unfold rl; split
    · rename_i hc
      refine ⟨by omega, h hc.1, good_rl l 1 c (some ch) (fun _ => by simp; exact fun e => hc.2 e.symm) (by omega)⟩
    · rename_i hc
      refine good_rl l (n + 1) c p (fun _ => ?_) (by omega)
      by_cases hn : n = 0
      · rw [h0 hn]; simp
      · have e : c = ch := by
          by_cases e : c = ch
          · exact e
          · exact absurd ⟨hn, e⟩ hc
        rw [e]; exact h hn
theorem rl_same : ∀ (m n : Nat) (c : Int) (l : List Int), rl n c (List.replicate m c ++ l) = rl (n + m) c l
  | 0, n, c, l => rfl
  | m + 1, n, c, l => by
    rw [List.replicate_succ, List.cons_append]
    simp only [rl]
    rw [if_neg (by simp), rl_same m, Nat.add_right_comm, Nat.add_assoc]
theorem rl_unrl : ∀ (R : List (Nat × Int)) (p : Option Int), good p R → (∀ (n : Nat) (ch : Int), n ≠ 0 → p = some ch → rl n ch (unrl R) = (n, ch) :: R) ∧ (p = none → ∀ ch, rl 0 ch (unrl R) = R)
  | [], p, _ => ⟨fun n ch hn _ => by simp [unrl, rl, hn], fun _ ch => by simp [unrl, rl]⟩
  | (k, c) :: R, p, ⟨h1, h2, h3⟩ => by
    obtain ⟨k, rfl⟩ := Nat.exists_eq_succ_of_ne_zero (show k ≠ 0 by omega)
    have ih := (rl_unrl R (some c) h3).1
    refine ⟨fun n ch hn hp => ?_, fun hp ch => ?_⟩
    · rw [unrl_cons, List.replicate_succ, List.cons_append]
      simp only [rl]
      have hc : c ≠ ch := by rintro rfl; exact h2 hp
      rw [if_pos ⟨hn, hc⟩, rl_same, ih _ _ (by omega) rfl, Nat.add_comm]
    · rw [unrl_cons, List.replicate_succ, List.cons_append]
      simp only [rl]
      rw [if_neg (by simp), rl_same, ih _ _ (by omega) rfl, Nat.zero_add, Nat.add_comm]
theorem rl_count : ∀ (l : List Int) (n : Nat) (ch : Int), ∀ p ∈ rl n ch l, p.1 ≤ n + l.length
  | [], n, ch, p, hp => by
    unfold rl at hp; split at hp
    · simp at hp
    · simp at hp; subst hp; simp
  | c :: l, n, ch, p, hp => by
    unfold rl at hp; split at hp
    · rcases List.mem_cons.1 hp with rfl | hp
      · simp
      · have := rl_count l 1 c p hp; simp; omega
    · have := rl_count l (n + 1) c p hp; simp; omega
theorem rl_val : ∀ (l : List Int) (n : Nat) (ch : Int), (∀ c ∈ l, i64 c) → (n ≠ 0 → i64 ch) → ∀ p ∈ rl n ch l, i64 p.2
  | [], n, ch, h, hc, p, hp => by
    unfold rl at hp; split at hp
    · simp at hp
    · simp at hp; subst hp; exact hc (by assumption)
  | c :: l, n, ch, h, hc, p, hp => by
    have h1 := h c (List.mem_cons_self ..)
    have h2 : ∀ x ∈ l, i64 x := fun x hx => h x (List.mem_cons_of_mem _ hx)
    unfold rl at hp; split at hp
    · rename_i hn
      rcases List.mem_cons.1 hp with rfl | hp
      · exact hc hn.1
      · exact rl_val l 1 c h2 (fun _ => h1) p hp
    · exact rl_val l (n + 1) c h2 (fun _ => h1) p hp

/-- a run's bytes -/
def enc1 (p : Nat × Int) : List UInt8 := vput p.1 ++ vput (zig p.2).toNat
def iput (l : List Int) : List UInt8 := (rl 0 0 (chg 0 0 l)).flatMap enc1

/-- the changes, and the error -/
def dgetF : Nat → Nat → List Int → List UInt8 → List Int × Nat
  | 0, _, _, _ => ([], 21)
  | f + 1, n, cs, b =>
    if cs.length < n then
      if b = [] then ([], 20)
      else if (vget b).2.2 ≠ 0 then ([], (vget b).2.2)
      else if (vget b).1 = 0 ∨ n - cs.length < (vget b).1 then ([], 21)
      else if (vget (b.drop (vget b).2.1)).2.2 ≠ 0 then ([], (vget (b.drop (vget b).2.1)).2.2)
      else if cs ≠ [] ∧ cs.getLast? = some (zag (vget (b.drop (vget b).2.1)).1) then ([], 21)
      else dgetF f n (cs ++ List.replicate (vget b).1 (zag (vget (b.drop (vget b).2.1)).1)) (b.drop ((vget b).2.1 + (vget (b.drop (vget b).2.1)).2.1))
    else if b ≠ [] then ([], 21) else (cs, 0)
/-- enough fuel is enough -/
theorem dgetF_fuel : ∀ (f g n : Nat) (cs : List Int) (b : List UInt8), n - cs.length < f → n - cs.length < g → dgetF f n cs b = dgetF g n cs b
  | 0, _, _, _, _, h, _ => by omega
  | _, 0, _, _, _, _, h => by omega
  | f + 1, g + 1, n, cs, b, h1, h2 => by
    unfold dgetF
    by_cases hl : cs.length < n
    · rw [if_pos hl, if_pos hl]
      split
      · rfl
      split
      · rfl
      split
      · rfl
      split
      · rfl
      split
      · rfl
      · rename_i hm _ _
        refine dgetF_fuel f g _ _ _ ?_ ?_ <;> (simp only [List.length_append, List.length_replicate]; omega)
    · rw [if_neg hl, if_neg hl]
def dget (n : Nat) (cs : List Int) (b : List UInt8) : List Int × Nat := dgetF (n - cs.length + 1) n cs b
theorem dget_eq (n : Nat) (cs : List Int) (b : List UInt8) : dget n cs b =
    if cs.length < n then
      if b = [] then ([], 20)
      else if (vget b).2.2 ≠ 0 then ([], (vget b).2.2)
      else if (vget b).1 = 0 ∨ n - cs.length < (vget b).1 then ([], 21)
      else if (vget (b.drop (vget b).2.1)).2.2 ≠ 0 then ([], (vget (b.drop (vget b).2.1)).2.2)
      else if cs ≠ [] ∧ cs.getLast? = some (zag (vget (b.drop (vget b).2.1)).1) then ([], 21)
      else dget n (cs ++ List.replicate (vget b).1 (zag (vget (b.drop (vget b).2.1)).1)) (b.drop ((vget b).2.1 + (vget (b.drop (vget b).2.1)).2.1))
    else if b ≠ [] then ([], 21) else (cs, 0) := by
  unfold dget
  conv => lhs; unfold dgetF
  by_cases hl : cs.length < n
  · rw [if_pos hl, if_pos hl]
    split
    · rfl
    split
    · rfl
    split
    · rfl
    split
    · rfl
    split
    · rfl
    · rename_i hm _ _
      refine dgetF_fuel _ _ _ _ _ ?_ ?_ <;> (simp only [List.length_append, List.length_replicate]; omega)
  · rw [if_neg hl, if_neg hl]
def iget (b : List UInt8) (n : Int) : List Int × Nat :=
  if n < 0 ∨ 65536 < n then ([], 1) else (unchg 0 0 (dget n.toNat [] b).1, (dget n.toNat [] b).2)

theorem zig_nat {c : Int} (h : i64 c) : (zig c).toNat < 18446744073709551616 ∧ ((zig c).toNat : Int) = zig c := by
  have := zig_bd c h.1 h.2; omega
theorem vget_enc1 {p : Nat × Int} (h1 : p.1 < 18446744073709551616) (h2 : i64 p.2) (l : List UInt8) :
    vget (enc1 p ++ l) = (p.1, (vput p.1).length, 0) ∧ vget ((enc1 p ++ l).drop (vput p.1).length) = ((zig p.2).toNat, (vput (zig p.2).toNat).length, 0) ∧
    (enc1 p ++ l).drop ((vput p.1).length + (vput (zig p.2).toNat).length) = l ∧ enc1 p ++ l ≠ [] := by
  have e : enc1 p ++ l = vput p.1 ++ (vput (zig p.2).toNat ++ l) := by simp [enc1]
  rw [e]
  refine ⟨vget_vput h1 _, ?_, ?_, ?_⟩
  · rw [List.drop_left, vget_vput (zig_nat h2).1]
  · rw [← List.append_assoc, ← List.length_append, List.drop_left]
  · intro h
    have := congrArg List.length h
    have h3 := vput_pos p.1
    rw [List.length_append, List.length_nil] at this; omega
theorem last_rep (n : Nat) (c : Int) (cs : List Int) (h : 1 ≤ n) : cs ++ List.replicate n c ≠ [] ∧ (cs ++ List.replicate n c).getLast? = some c := by
  obtain ⟨k, rfl⟩ := Nat.exists_eq_succ_of_ne_zero (show n ≠ 0 by omega)
  rw [List.replicate_succ']
  refine ⟨by simp, ?_⟩
  rw [← List.append_assoc, List.getLast?_concat]
def prev (cs : List Int) : Option Int := cs.getLast?
/-- what is told is read, as many as there are; as others it is none -/
theorem dget_enc : ∀ (R : List (Nat × Int)) (cs : List Int) (n : Nat), good cs.getLast? R → (∀ p ∈ R, p.1 < 18446744073709551616 ∧ i64 p.2) → cs.length ≤ n →
    (cs.length + (unrl R).length = n → dget n cs (R.flatMap enc1) = (cs ++ unrl R, 0)) ∧ (cs.length + (unrl R).length ≠ n → (dget n cs (R.flatMap enc1)).2 ≠ 0)
  | [], cs, n, _, _, hn => by
    rw [dget_eq]
    refine ⟨fun h => ?_, fun h => ?_⟩
    · simp [unrl] at h
      rw [if_neg (by omega)]; simp [unrl]
    · simp [unrl] at h
      rw [if_pos (by omega)]; simp
  | (k, c) :: R, cs, n, ⟨h1, h2, h3⟩, hb, hn => by
    obtain ⟨hk, hc⟩ := hb (k, c) (List.mem_cons_self ..)
    have hb' : ∀ p ∈ R, p.1 < 18446744073709551616 ∧ i64 p.2 := fun p hp => hb p (List.mem_cons_of_mem _ hp)
    have e : ((k, c) :: R).flatMap enc1 = enc1 (k, c) ++ R.flatMap enc1 := by simp
    obtain ⟨g1, g2, g3, g4⟩ := vget_enc1 (p := (k, c)) hk hc (R.flatMap enc1)
    have hlast : ¬ (cs ≠ [] ∧ cs.getLast? = some c) := fun h => h2 h.2
    have hz : zag ((zig c).toNat : Int) = c := by rw [(zig_nat hc).2]; exact zag_zig c
    have hul : (unrl ((k, c) :: R)).length = k + (unrl R).length := by rw [unrl_cons]; simp
    have ih := dget_enc R (cs ++ List.replicate k c) n (by rw [(last_rep k c cs h1).2]; exact h3) hb'
    simp only [List.length_append, List.length_replicate] at ih
    rw [hul, e, dget_eq]
    simp only [g1, g2, g3, g4, hz]
    by_cases hl : cs.length < n
    · rw [if_pos hl, if_neg (by simp), if_neg (by simp)]
      by_cases hm : k = 0 ∨ n - cs.length < k
      · rw [if_pos hm]
        exact ⟨fun h => by omega, fun _ => by simp⟩
      · rw [if_neg hm, if_neg (by simp), if_neg hlast]
        have ih2 := ih (by omega)
        refine ⟨fun h => ?_, fun h => ih2.2 (by omega)⟩
        rw [ih2.1 (by omega), unrl_cons, List.append_assoc]
    · rw [if_neg hl]
      refine ⟨fun h => by omega, fun _ => ?_⟩
      simp only [ne_eq, g4, not_false_eq_true, if_true]
      simp
/-- what is read was told so -/
theorem dget_ok : ∀ (f n : Nat) (cs : List Int) (b : List UInt8) (out : List Int), n - cs.length < f → cs.length ≤ n → dget n cs b = (out, 0) →
    ∃ R, good cs.getLast? R ∧ b = R.flatMap enc1 ∧ out = cs ++ unrl R ∧ out.length = n ∧ ∀ p ∈ R, i64 p.2
  | 0, n, cs, b, out, h, _, _ => by omega
  | f + 1, n, cs, b, out, hf, hn, h => by
    rw [dget_eq] at h
    split at h
    · rename_i hl
      split at h
      · simp at h
      split at h
      · rename_i he; simp only [Prod.mk.injEq] at h; exact absurd h.2 he
      split at h
      · simp at h
      split at h
      · rename_i he; simp only [Prod.mk.injEq] at h; exact absurd h.2 he
      split at h
      · simp at h
      rename_i hb he hm he2 hz
      obtain ⟨m, u, hmu⟩ : ∃ m u, vget b = (m, u, 0) := ⟨(vget b).1, (vget b).2.1, by
        refine Prod.ext rfl (Prod.ext rfl ?_); simpa using he⟩
      rw [hmu] at h hm he2 hz
      dsimp only at h hm he2 hz
      obtain ⟨z, q, hzq⟩ : ∃ z q, vget (b.drop u) = (z, q, 0) := ⟨(vget (b.drop u)).1, (vget (b.drop u)).2.1, by
        refine Prod.ext rfl (Prod.ext rfl ?_); simpa using he2⟩
      rw [hzq] at h hz
      dsimp only at h hz
      obtain ⟨a1, a2, a3, a4, a5⟩ := vget_ok hmu
      obtain ⟨b1, b2, b3, b4, b5⟩ := vget_ok hzq
      have hm1 : 1 ≤ m := by omega
      obtain ⟨R, r1, r2, r3, r4, r5⟩ := dget_ok f n _ _ out (by simp; omega) (by simp; omega) h
      have hzz : (zig (zag (z : Int))).toNat = z := by rw [zig_zag _ (by omega)]; omega
      refine ⟨(m, zag z) :: R, ⟨hm1, ?_, ?_⟩, ?_, ?_, r4, ?_⟩
      · intro e
        refine hz ⟨?_, e⟩
        rintro rfl; simp at e
      · rw [(last_rep m _ cs hm1).2] at r1; exact r1
      · rw [List.flatMap_cons, ← r2]
        unfold enc1
        rw [hzz, a4, b4, ← List.drop_drop, List.append_assoc, List.take_append_drop, List.take_append_drop]
      · rw [r3, unrl_cons, List.append_assoc]
      · intro p hp
        rcases List.mem_cons.1 hp with rfl | hp
        · exact zag_bd _ (by omega) (by omega)
        · exact r5 p hp
    · rename_i hl
      split at h
      · simp at h
      rename_i hb
      simp at hb
      simp only [Prod.mk.injEq] at h
      obtain ⟨rfl, _⟩ := h
      refine ⟨[], trivial, by simp [hb], by simp [unrl], by omega, by simp⟩
theorem dget_len {n : Nat} {cs : List Int} {b : List UInt8} (h : cs.length ≤ n) : (dget n cs b).2 = 0 → (dget n cs b).1.length = n := fun h0 => by
  obtain ⟨R, _, _, _, h4, _⟩ := dget_ok (n - cs.length + 1) n cs b (dget n cs b).1 (by omega) h (by rw [← h0])
  exact h4
theorem dget_err : ∀ (f n : Nat) (cs : List Int) (b : List UInt8), (dgetF f n cs b).2 ≠ 0 → (dgetF f n cs b).1 = []
  | 0, n, cs, b, h => rfl
  | f + 1, n, cs, b, h => by
    unfold dgetF at h ⊢
    repeat' (split at h)
    all_goals first | (simp [*]; done) | skip
    all_goals (first
      | (simp_all; done)
      | (rename_i x1 x2 x3 x4 x5 x6; rw [if_pos x1, if_neg x2, if_neg x3, if_neg x4, if_neg x5, if_neg x6]; exact dget_err f n _ _ h))
/-- the row comes back -/
theorem iget_iput (l : List Int) (h : ∀ v ∈ l, i64 v) (hl : l.length ≤ 65536) (n : Int) : iget (iput l) l.length = (l, 0) ∧ ((iget (iput l) n).2 = 0 ↔ n = l.length) := by
  have hc := chg_length l 0 0
  have hR : good none (rl 0 0 (chg 0 0 l)) := good_rl _ _ _ _ (by simp) (by simp)
  have hu : unrl (rl 0 0 (chg 0 0 l)) = chg 0 0 l := by rw [unrl_rl]; rfl
  have hb : ∀ p ∈ rl 0 0 (chg 0 0 l), p.1 < 18446744073709551616 ∧ i64 p.2 := fun p hp => by
    have h1 := rl_count _ _ _ p hp
    exact ⟨by omega, rl_val _ _ _ (chg_i64 l 0 0) (by simp) p hp⟩
  have D := fun m => dget_enc (rl 0 0 (chg 0 0 l)) [] m hR hb (by simp)
  rw [hu, hc] at D
  simp only [List.length_nil, Nat.zero_add, List.nil_append] at D
  constructor
  · unfold iget
    rw [if_neg (by omega), Int.toNat_natCast]
    have := (D l.length).1 rfl
    unfold iput
    rw [this]
    simp only [unchg_chg l 0 0 h i64_zero i64_zero]
  · unfold iget
    by_cases hn : n < 0 ∨ 65536 < n
    · rw [if_pos hn]; simp; omega
    · rw [if_neg hn]
      constructor
      · intro h0
        by_cases e : n = l.length
        · exact e
        · exact absurd h0 ((D n.toNat).2 (by omega))
      · intro e
        subst e
        rw [Int.toNat_natCast]
        have := (D l.length).1 rfl
        unfold iput
        rw [this]
/-- what is got is put as the same bytes -/
theorem iput_iget (b : List UInt8) (n : Int) (h : (iget b n).2 = 0) : 0 ≤ n ∧ n ≤ 65536 ∧ ((iget b n).1.length : Int) = n ∧ iput (iget b n).1 = b ∧ ∀ v ∈ (iget b n).1, i64 v := by
  unfold iget at h ⊢
  split at h
  · simp at h
  · rename_i hn
    rw [if_neg hn]
    dsimp only at h ⊢
    obtain ⟨R, r1, r2, r3, r4, r5⟩ := dget_ok (n.toNat + 1) n.toNat [] b (dget n.toNat [] b).1 (by simp) (by simp) (by rw [← h])
    refine ⟨by omega, by omega, by rw [unchg_length, r4]; omega, ?_, unchg_i64 _ _ _⟩
    have hi : ∀ c ∈ (dget n.toNat [] b).1, i64 c := by
      rw [r3]
      intro c hc
      rw [List.nil_append] at hc
      obtain ⟨p, hp, hc⟩ := List.mem_flatMap.1 hc
      rw [(List.mem_replicate.1 hc).2]
      exact r5 _ hp
    unfold iput
    rw [chg_unchg _ _ _ hi i64_zero i64_zero, r3]
    have := (rl_unrl R none r1).2 rfl 0
    simp only [List.nil_append]
    rw [this]
    exact r2.symm
theorem iget_err (b : List UInt8) (n : Int) (h : (iget b n).2 ≠ 0) : (iget b n).1 = [] := by
  unfold iget at h ⊢
  split
  · rfl
  · rename_i hn
    rw [if_neg hn] at h
    show unchg 0 0 (dget n.toNat [] b).1 = []
    have := dget_err _ _ _ _ h
    unfold dget
    rw [this]; rfl
end Go.Proofs.Ythkpgjcnnfdibaa.In

/-! Plain laws of layer 5: the reference's way of changes. No program in sight. -/
namespace Go.Proofs.Ythkpgjcnnfdibaa.In
open Go.RowKit
set_option linter.unusedVariables false

/-- a number as one that goes round -/
def toU (c : Int) : Int := c % 18446744073709551616
theorem u64_bd2 (c : Int) : 0 ≤ toU c ∧ toU c < 18446744073709551616 := by unfold toU; omega
theorem u64_back {c : Int} (h : i64 c) : wrap64 (toU c) = c := by unfold i64 at h; unfold toU wrap64; omega
theorem u64_inj {a b : Int} (ha : i64 a) (hb : i64 b) (h : toU a = toU b) : a = b := by
  have h1 := u64_back ha; have h2 := u64_back hb; rw [h] at h1; omega
/-- where a row of numbers has come to -/
def cst (a s : Int) : List Int → Int × Int
  | [] => (a, s)
  | v :: l => cst v (wrap64 (v - a)) l
theorem cst_snoc : ∀ (l : List Int) (a s v : Int), cst a s (l ++ [v]) = (v, wrap64 (v - (cst a s l).1))
  | [], a, s, v => rfl
  | x :: l, a, s, v => by simp [cst, cst_snoc l]
theorem chg_snoc : ∀ (l : List Int) (a s v : Int), chg a s (l ++ [v]) = chg a s l ++ [wrap64 (wrap64 (v - (cst a s l).1) - (cst a s l).2)]
  | [], a, s, v => rfl
  | x :: l, a, s, v => by simp [chg, cst, chg_snoc l]
theorem take_snoc (l : List Int) (k : Nat) (h : k < l.length) : l.take (k + 1) = l.take k ++ [l[k]] := by
  rw [List.take_succ_eq_append_getElem h]
theorem step0 (v : Int) : toU (wrap64 (wrap64 (v - 0) - 0)) = toU v := by unfold toU wrap64; omega
theorem step1 (v a : Int) : toU (wrap64 (wrap64 (v - a) - wrap64 (a - 0))) = toU (toU (toU v - toU a) - toU a) := by unfold toU wrap64; omega
theorem step2 (v a b : Int) : toU (wrap64 (wrap64 (v - a) - wrap64 (a - b))) = toU (toU (toU v - toU a) - toU (toU a - toU b)) := by unfold toU wrap64; omega
theorem wrapU (x : Int) : IntKind.u64.wrap x = toU x := by rw [IntKind.wrap_u64]; rfl
theorem rl_zero (x y : Int) (l : List Int) : rl 0 x l = rl 0 y l := by
  cases l <;> simp [rl]
/-- a run goes on -/
theorem rl_go {m : Nat} {ch c : Int} {l : List Int} (h : m ≠ 0 → ch = c) : rl m ch (c :: l) = rl (m + 1) c l := by
  simp only [rl]
  rw [if_neg]
  rintro ⟨h1, h2⟩; exact h2 (h h1).symm
/-- a run ends -/
theorem rl_end {m : Nat} {c : Int} (hm : m ≠ 0) (l : List Int) (h : l.head? ≠ some c) : rl m c l = (m, c) :: rl 0 0 l := by
  cases l with
  | nil => simp [rl, hm]
  | cons x l =>
    have hx : x ≠ c := by simpa using h
    simp only [rl]
    rw [if_pos ⟨hm, hx⟩, if_neg (by simp)]
theorem lst_u64 (a s c : Int) : toU (wrap64 (s + c)) = toU (toU s + toU c) ∧ toU (wrap64 (a + wrap64 (s + c))) = toU (toU a + toU (toU s + toU c)) := by
  unfold toU wrap64; omega
end Go.Proofs.Ythkpgjcnnfdibaa.In

/-! The walks of ints.runs, its closure, and ints.Put (layer 5): Put answers iput, in new memory. For rows of at most 2^32 numbers. -/
namespace Go.Proofs.Ythkpgjcnnfdibaa.In
open Go.RowKit Go.Shelf
set_option linter.unusedVariables false
set_option linter.unusedSimpArgs false
attribute [local go_sem] Oper.semAt_some

/-- a run that the loop is handed -/
abbrev Run := { p : Nat × Int // p.1 ≤ 4294967296 ∧ i64 p.2 }
abbrev nums (l : List Int) : List Value := l.map (Value.int .i64)
abbrev raw (l : List Run) : List (Nat × Int) := l.map (·.1)
abbrev allRuns (zs : List Int) : List (Nat × Int) := rl 0 0 (chg 0 0 zs)

set_option maxRecDepth 100000 in
set_option maxHeartbeats 2000000 in
theorem runs1_in (F : Fence) (n : Nat) (hF : F.fn 114) (hro : F.round = none) (hn : 1 ≤ n) (l Bs n₀ : Nat) (A : Option Addr) (cap : Nat) (zs : List Int) (hreach : zs.length ≤ 4294967296) (J Jx : List Run → World → Prop)
    (hY : ∀ pre x W, J pre W → pre.length < (allRuns zs).length → YieldAt F (n - 1) Try.prog l #[.int .i64 (x.1.1 : Int), .int .i64 x.1.2] W fun e W' =>
      (e = .returned (.bool true) ∧ J (pre ++ [x]) W' ∧ Below n₀ W W') ∨ (e = .returned (.bool false) ∧ Jx (pre ++ [x]) W'))
    (W : World) (hBs : W.cell? ⟨Bs, 0, none⟩ = some (.slice A zs.length cap)) (hc : Rd W n₀ A (nums zs)) (h0 : J [] W) :
    CallsIn F n Try.prog 114 #[.func (.yield l) #[] #[], .pointer (some ⟨Bs, 0, none⟩)] W fun e W' => (∃ v, e = .returned v) ∧
      ((∃ ys, raw ys = allRuns zs ∧ J ys W') ∨ (∃ pre, True ∧ Jx pre W')) := by
  refine callsIn_of_wp Try.func114 rfl hF ?_ hro
  simp only [Try.ntmps114, List.size_toArray, List.length_cons, List.length_nil, Nat.reduceAdd, Nat.reduceSub, Array.replicate_succ, Array.replicate_zero, List.push_toArray, List.append_toArray, List.nil_append, List.cons_append]
  gi_wp2
  gi_loopw [3, 4, 5, 6, 13] (fun vn vl vs vc vi wr => ∃ (k m : Nat) (a s ch : Int) (pre : List Run), k ≤ zs.length ∧ m ≤ k ∧ vn = .int .i64 m ∧ vl = .int .i64 a ∧ vs = .int .i64 s ∧ vc = .int .i64 ch ∧ vi = .int .i64 k ∧
      allRuns zs = raw pre ++ rl m ch (chg a s (zs.drop k)) ∧ i64 ch ∧ J pre wr ∧ Below n₀ W wr)
    (fun _ _ _ _ vi _ => zs.length - (intOf vi).toNat)
  case atStart => exact ⟨0, 0, 0, 0, 0, [], Nat.zero_le _, Nat.le_refl _, rfl, rfl, rfl, rfl, rfl, rfl, i64_zero, h0, Below.refl _ _⟩
  case round =>
    obtain ⟨k, m, a, s, ch, pre, hk, hm, rfl, rfl, rfl, rfl, rfl, hR, hch, hJ, hnx⟩ := hrel
    have HR := Lib.hid hR
    have HC := Lib.hid hch
    clear hR hch
    by_cases hlt : k < zs.length
    · obtain ⟨b, o, hA, hb, hcell⟩ := hc.at (k := k) (by simpa using hlt)
      have hck : wr.cell? ⟨b, o + k, none⟩ = some (.int .i64 zs[k]) := (hnx.cell (p := ⟨b, o + k, none⟩) hb).trans (hcell k _ (by simp [hlt]))
      clear hcell
      obtain ⟨x, hx⟩ : ∃ x, x = zs[k] := ⟨_, rfl⟩
      rw [← hx] at hck
      obtain ⟨nw, hnw⟩ : ∃ y, y = wrap64 (x - a) := ⟨_, rfl⟩
      obtain ⟨c, hcc⟩ : ∃ y, y = wrap64 (nw - s) := ⟨_, rfl⟩
      have hci : i64 c := by rw [hcc]; exact i64_wrap _
      have hstep : allRuns zs = raw pre ++ rl m ch (c :: chg x nw (zs.drop (k + 1))) := by
        rw [HR.out, List.drop_eq_getElem_cons hlt, ← hx, hcc, hnw]; rfl
      have HS := Lib.hid hstep
      have HI := Lib.hid hci
      clear hstep hci HR hx
      subst hA
      have hnw' := hnw.symm
      have hcc' := hcc.symm
      clear hnw hcc
      rcases Nat.eq_zero_or_pos m with rfl | hm0
      · gi_wp2
        go_roundw
        case rel => exact ⟨k + 1, 1, x, nw, c, pre, by omega, by omega, rfl, rfl, by first | rfl | rw [hnw'], by first | rfl | rw [hcc'] | rw [hnw', hcc'], by go_num, by rw [HS.out]; simp [rl], HI.out, hJ, hnx⟩
        case measure => simp [intOf]; omega
      · have hmk : m ≤ 4294967296 := by omega
        by_cases hcch : c = ch
        · subst hcch
          gi_wp2
          go_roundw
          case rel => exact ⟨k + 1, m + 1, x, nw, c, pre, by omega, by omega, by go_num, rfl, by first | rfl | rw [hnw'], by first | rfl | rw [hcc'] | rw [hnw', hcc'], by go_num, by rw [HS.out]; simp [rl], HI.out, hJ, hnx⟩
          case measure => simp [intOf]; omega
        · have hlen : pre.length < (allRuns zs).length := by
            have := congrArg List.length HS.out
            rw [rl, if_pos ⟨by omega, hcch⟩] at this
            simp only [List.length_append, List.length_map, List.length_cons] at this
            omega
          obtain ⟨fn, tmps, assign, body, hy, hRd⟩ := hY pre ⟨(m, ch), hmk, HC.out⟩ wr hJ hlen
          dsimp only at hy
          have hm0' : 0 < m := hm0
          gi_wp2
          refine hRd.mono ?_
          rintro e W3 (⟨rfl, hJ3, hk3⟩ | ⟨rfl, hJx3⟩)
          · gi_wp2
            go_roundw
            case rel => exact ⟨k + 1, 1, x, nw, c, pre ++ [⟨(m, ch), hmk, HC.out⟩], by omega, by omega, rfl, rfl, rfl, rfl, by go_num, by rw [HS.out, rl, if_pos ⟨by omega, hcch⟩]; simp, HI.out, hJ3, hnx.trans hk3⟩
            case measure => simp [intOf]; omega
          · gi_wp2
            refine bodyPost_ret (results_none rfl _ _ _) rfl ?_
            exact ⟨⟨_, rfl⟩, .inr ⟨_, trivial, hJx3⟩⟩
    · have hkl : k = zs.length := by omega
      have hend : allRuns zs = raw pre ++ rl m ch [] := by
        rw [HR.out, hkl, List.drop_length]; rfl
      have HS := Lib.hid hend
      clear hend HR hkl
      rcases Nat.eq_zero_or_pos m with rfl | hm0
      · gi_wp2
        go_end0
        exact ⟨⟨_, rfl⟩, .inl ⟨pre, by rw [HS.out]; simp [rl], hJ⟩⟩
      · have hmk : m ≤ 4294967296 := by omega
        have hlen : pre.length < (allRuns zs).length := by
          have := congrArg List.length HS.out
          rw [rl, if_neg (by omega)] at this
          simp only [List.length_append, List.length_map, List.length_cons] at this
          omega
        obtain ⟨fn, tmps, assign, body, hy, hRd⟩ := hY pre ⟨(m, ch), hmk, HC.out⟩ wr hJ hlen
        dsimp only at hy
        gi_wp2
        refine hRd.mono ?_
        rintro e W3 (⟨rfl, hJ3, hk3⟩ | ⟨rfl, hJx3⟩)
        · gi_wp2
          go_end0
          exact ⟨⟨_, rfl⟩, .inl ⟨_, by rw [HS.out, rl, if_neg (by omega)]; simp, hJ3⟩⟩
        · gi_wp2
          go_end0
          exact ⟨⟨_, rfl⟩, .inr ⟨_, trivial, hJx3⟩⟩

set_option maxHeartbeats 1000000 in
theorem runs_in (F : Fence) (n : Nat) (hF : F.fn 113) (hro : F.round = none) (a : Option Addr) (len cap : Nat) (w : World) :
    CallsIn F n Try.prog 113 #[.slice a len cap] w fun e w' => e = .returned (.func (.func 114) #[] #[.pointer (some ⟨w.heap.size, 0, none⟩)]) ∧ w' = w.alloc (.cells #[.slice a len cap] 116) := by
  refine callsIn_of_wp Try.func113 rfl hF ?_ hro
  simp only [Try.ntmps113, List.size_toArray, List.length_cons, List.length_nil, Nat.reduceAdd, Nat.reduceSub, Array.replicate_succ, Array.replicate_zero, List.push_toArray, List.append_toArray, List.nil_append, List.cons_append]
  gi_wp2
  go_ret
  exact ⟨rfl, rfl⟩

theorem runs_stops (F : Fence) (n : Nat) (hF : F.fn 114) (hro : F.round = none) (hn : 1 ≤ n) (Bs n₀ : Nat) (A : Option Addr) (cap : Nat) (zs : List Int) (hreach : zs.length ≤ 4294967296) (w : World) (hBs : Bs < w.heap.size) (hn₀ : n₀ ≤ w.heap.size)
    (hc : w.cell? ⟨Bs, 0, none⟩ = some (.slice A zs.length cap)) (hI : Rd w n₀ A (nums zs)) :
    SeqStopsK F n Try.prog 114 #[.pointer (some ⟨Bs, 0, none⟩)] (fun x : Run => #[Value.int .i64 (x.1.1 : Int), Value.int .i64 x.1.2]) (Below n₀) (fun ys => raw ys = allRuns zs) (fun _ => True) (allRuns zs).length w := fun l J Jx W hW _ _ hY h0 =>
  runs1_in F n hF hro hn l Bs n₀ A cap zs hreach J Jx hY W ((hW.cell (p := ⟨Bs, 0, none⟩) hBs).trans hc) (hI.below (hW.mono hn₀)) h0

theorem keepsFrom_of_below {B : Nat} {W W1 : World} (h : Below W.heap.size W W1) : KeepsFrom B W W1 :=
  ⟨h.size, fun k o _ hk _ => (h.block k (Array.getElem?_eq_some_iff.1 hk).1).trans hk⟩
theorem boxed_below {W W1 : World} {B : Nat} {t : TypeId} {v : Value} (h : Boxed W B t v) (hb : Below W.heap.size W W1) : Boxed W1 B t v := (hb.block B h.lt).trans h
theorem enc1_length {p : Nat × Int} (h : p.1 ≤ 4294967296 ∧ i64 p.2) : (enc1 p).length ≤ 20 := by
  have h1 := vput_length64 (show p.1 < 18446744073709551616 by omega)
  have h2 := vput_length64 (zig_nat h.2).1
  unfold enc1; rw [List.length_append]; omega
theorem encs_length : ∀ pre : List Run, ((raw pre).flatMap enc1).length ≤ 20 * pre.length
  | [] => by simp
  | x :: pre => by
    have h1 := enc1_length x.2
    have h2 := encs_length pre
    simp only [raw, List.map_cons, List.flatMap_cons, List.length_append, List.length_cons] at h2 ⊢
    omega
theorem rl_length : ∀ (l : List Int) (n : Nat) (ch : Int), (rl n ch l).length ≤ l.length + 1
  | [], n, ch => by unfold rl; split <;> simp
  | c :: l, n, ch => by
    unfold rl; split
    · have := rl_length l 1 c; simp; omega
    · have := rl_length l (n + 1) c; simp; omega
theorem iput_length (zs : List Int) (h : zs.length ≤ 4294967296) : (iput zs).length ≤ 20 * (zs.length + 1) := by
  have hb : ∀ p ∈ allRuns zs, (enc1 p).length ≤ 20 := fun p hp => by
    have h1 := rl_count _ _ _ p hp
    have h2 := rl_val _ 0 0 (chg_i64 zs 0 0) (by simp) p hp
    rw [chg_length] at h1
    exact enc1_length ⟨by omega, h2⟩
  have hl : (allRuns zs).length ≤ zs.length + 1 := by have := rl_length (chg 0 0 zs) 0 0; rw [chg_length] at this; exact this
  have e : ∀ R : List (Nat × Int), (∀ p ∈ R, (enc1 p).length ≤ 20) → (R.flatMap enc1).length ≤ 20 * R.length := by
    intro R
    induction R with
    | nil => simp
    | cons p R ih =>
      intro h
      have h1 := h p (List.mem_cons_self ..)
      have h2 := ih fun x hx => h x (List.mem_cons_of_mem _ hx)
      simp only [List.flatMap_cons, List.length_append, List.length_cons]; omega
  have := e _ hb
  unfold iput
  unfold allRuns at this hl
  omega

set_option maxRecDepth 100000 in
set_option maxHeartbeats 2000000 in
theorem Put_ints (A : Option Addr) (cap : Nat) (zs : List Int) (hl : zs.length ≤ 65536) (w : World) (hI : Rd w w.heap.size A (nums zs)) :
    Calls Try.prog 105 #[.slice A zs.length cap] w (RetB w (iput zs)) := by
  have hN : (allRuns zs).length ≤ 65537 := by have := rl_length (chg 0 0 zs) 0 0; rw [chg_length] at this; unfold allRuns; omega
  refine (callsIn_wide (n := 3)).1 ?_
  refine callsIn_of_wp_marks Try.func105 rfl trivial ?_ rfl
  simp only [Try.ntmps105, List.size_toArray, List.length_cons, List.length_nil, Nat.reduceAdd, Nat.reduceSub, Array.replicate_succ, Array.replicate_zero, List.push_toArray, List.append_toArray, List.nil_append, List.cons_append]
  gi_wp2_with (refine ⟨trivial, ?_⟩; gi_at_call 113; refine (runs_in Fence.wide _ trivial rfl _ _ _ _).mono ?_; rintro e w' ⟨rfl, rfl⟩)
  have bO := Boxed.new w 22 (.slice none 0 0)
  have bN := Boxed.new (w.alloc (.cells #[.slice none 0 0] 22)) 116 (.slice A zs.length cap)
  rw [World.size_alloc] at bN
  have hB0 : Below w.heap.size w ((w.alloc (.cells #[.slice none 0 0] 22)).alloc (.cells #[.slice A zs.length cap] 116)) := ((Below.refl _ w).alloc (Nat.le_refl _) _).alloc (by simp) _
  refine wpIn_rangeFunc_ownG rfl (by omega) (gf := 114) (lb := #[.pointer (some ⟨w.heap.size + 1, 0, none⟩)]) rfl trivial (enters_of Try.func114 (by kernel_rfl) rfl)
    (runs_stops Fence.wide _ trivial rfl (by omega) (w.heap.size + 1) w.heap.size A cap zs (by omega) _ (by simp) (by simp; omega) bN.cell (hI.below hB0)) belowK_t (belowK_b (by simp; omega)) (Below.refl _ _) (fun _ => rfl)
    (fun pre W => (∃ v, Boxed W w.heap.size 22 v ∧ W.ownsRow w.heap.size 5 1 v ((raw pre).flatMap enc1).length (cells ((raw pre).flatMap enc1)) ∧ True) ∧ Below w.heap.size w W)
    (fun _ _ _ => False)
    (OwnFrom.and (Own.from (holdsRow_own w.heap.size w.heap.size 22 5 1 (fun pre => ((raw pre).flatMap enc1).length) (fun pre => cells ((raw pre).flatMap enc1)) (fun _ _ => True)) _) (ownFrom_below (Nat.le_refl _) (by simp; omega)))
    (fun _ _ _ _ _ hs _ _ => hs)
    ⟨⟨_, bO.alloc _, World.ownsRow_nil _ _ _ _, trivial⟩, hB0⟩
    (fun x => { tmps := #[.slice A zs.length cap, undef, .slice none 0 0, .pointer (some ⟨w.heap.size, 0, none⟩), .int .i64 x.1.1, .int .i64 x.1.2, .slice A zs.length cap, .func (.func 114) #[] #[.pointer (some ⟨w.heap.size + 1, 0, none⟩)], .int .i64 x.1.1, .int .i64 x.1.2, undef, undef, undef, undef, undef, undef, undef, undef], defers := [] }) ?assign ?body ?done ?stop
  case assign =>
    intro l x W K hK
    gi_wp2
    exact hK
  case body =>
    rintro l pre x W ⟨⟨v, hv, hrow, _⟩, hB⟩ hlt
    have hel := encs_length pre
    have hraw : (raw (pre ++ [x])).flatMap enc1 = (raw pre).flatMap enc1 ++ (vput x.1.1 ++ vput (zig x.1.2).toNat) := by simp [raw, enc1]
    obtain ⟨bs, hbs⟩ : ∃ bs, bs = (raw pre).flatMap enc1 := ⟨_, rfl⟩
    rw [← hbs] at hrow hel hraw
    clear hbs
    obtain ⟨A1, c1, rfl, hc1⟩ := own_form hrow
    have hc := hv.cell
    have hrd := rd_own hrow
    obtain ⟨⟨m, ch⟩, hm, hch⟩ := x
    dsimp only at hm hch ⊢
    have hz := zig_nat hch
    have hlm := vput_length64 (show m < 18446744073709551616 by omega)
    have P1 := Put_any W.heap.size A1 c1 bs m (by omega) W hrd (by omega)
    have Z1 := fun w => Zig_any ch hch.1 hch.2 w
    rw [← hz.2] at Z1
    obtain ⟨z, hzz⟩ : ∃ z, z = (zig ch).toNat := ⟨_, rfl⟩
    dsimp only at hraw
    rw [← hzz] at Z1 hz hraw
    have HR := Lib.hid hraw
    clear hraw
    obtain ⟨bm, hbm⟩ : ∃ bm, bm = bs ++ vput m := ⟨_, rfl⟩
    rw [← hbm] at P1
    have hbl : bm.length ≤ bs.length + 10 := by rw [hbm, List.length_append]; omega
    have HP := Lib.hid P1
    have HZ := Lib.hid Z1
    have HH := Lib.hid hz.1
    have HM := Lib.hid hbm
    clear P1 Z1 hzz hz hbm
    gi_wp2_with fail
    refine ⟨trivial, ?_⟩
    refine (CallsIn.inRound l (callsIn_wide.2 HP.out)).mono ?_; rintro e W1 ⟨A2, c2, rfl, hown2, hb2⟩
    have hz1 := hb2.size
    have hv1 := boxed_below hv hb2
    have hrd2 := rd_own hown2
    have P2 := Put_any W1.heap.size A2 c2 bm z HH.out W1 hrd2 (by omega)
    obtain ⟨bz, hbz⟩ : ∃ bz, bz = bm ++ vput z := ⟨_, rfl⟩
    rw [← hbz] at P2
    have HP2 := Lib.hid P2
    have HB := Lib.hid hbz
    clear P2 hbz
    gi_wp2_with fail
    refine ⟨trivial, ?_⟩
    refine (CallsIn.inRound l (callsIn_wide.2 (HZ.out _))).mono ?_; rintro e W1' ⟨rfl, rfl⟩
    gi_wp2_with fail
    refine ⟨trivial, ?_⟩
    refine (CallsIn.inRound l (callsIn_wide.2 HP2.out)).mono ?_; rintro e W2 ⟨A3, c3, rfl, hown3, hb3⟩
    have hv2 := boxed_below hv1 hb3
    have hb4 : Below W.heap.size W W2 := hb2.trans (hb3.mono hz1)
    have hc2 := hv2.cell
    have hf2 := hv2.frozen
    have hown4 := hown3.mono (base' := w.heap.size) (by have := hB.size; omega)
    have hne := (hv2.not_row (by decide) hown4).symm
    have hbB : Below w.heap.size W W2 := hb4.mono hB.size
    have heq : bz = bs ++ (vput m ++ vput z) := by rw [HB.out, HM.out, List.append_assoc]
    have HE := Lib.hid heq
    clear heq
    gi_wp2_with fail
    refine ⟨(keepsFrom_of_below hb4).trans ((KeepsOthers.setCell _ _ _).from _), hbB.setCell (p := ⟨w.heap.size, 0, none⟩) (Nat.le_refl _) _, ⟨_, hv2.set _, ?_, trivial⟩, (hB.trans hbB).setCell (p := ⟨w.heap.size, 0, none⟩) (Nat.le_refl _) _⟩
    rw [HR.out, ← HE.out]
    exact hown4.kept (grownBy_setCell' W2 w.heap.size _) (.inr hne)
  case done =>
    rintro D ys W hD hys ⟨⟨v, hv, hrow, _⟩, hB⟩ hK
    have hc := hv.cell
    rw [hys] at hrow
    gi_wp2
    refine ⟨by simp, .inl ⟨_, _, rfl, run_takeDeferred hK, ?_⟩⟩
    exact ⟨_, results_tmp rfl _ _ _, retB_of (ownsRow_putObj hrow _ hK rfl) (hB.trans (belowK_b (w := w) (Nat.le_refl _) W D _ _ (by simp at hD; omega) hK rfl rfl))⟩
  case stop =>
    rintro D c pre W _ _ h _
    exact h.elim
end Go.Proofs.Ythkpgjcnnfdibaa.In

/-! The walk of ints.Get (layer 5): it answers iget. For rows of bytes of at most 2^32. -/
namespace Go.Proofs.Ythkpgjcnnfdibaa.In
open Go.RowKit
set_option linter.unusedVariables false
set_option linter.unusedSimpArgs false

abbrev num (l : List Int) : List Value := l.map (Value.int .i64)
theorem Try.infoI64 : (Try.prog.info? 2).map (fun i => (i.zero, i.size, i.bytes)) = some (some (.int .i64 0), 1, 8) := by kernel_rfl
theorem El_i64 : El Try.prog 116 2 1 8 := el_of Try.underlying116 Try.infoI64 rfl (by decide)
/-- What a call that answers numbers and an error leaves. -/
def RetI (w : World) (r : List Int × Nat) (e : Ending) (w' : World) : Prop :=
  ∃ A c, e = .returned (.tuple #[.slice A r.1.length c, .int .i64 (r.2 : Int)]) ∧ w'.ownsRow w.heap.size 2 1 (.slice A r.1.length c) r.1.length (num r.1) ∧ Below w.heap.size w w'
theorem retI_err {w w' : World} {r : List Int × Nat} {x : Nat} (h : r = ([], x)) (hb : Below w.heap.size w w') : RetI w r (.returned (.tuple #[.slice none 0 0, .int .i64 (x : Int)])) w' := by
  subst h
  exact ⟨none, 0, rfl, World.ownsRow_nil _ _ _ _, hb⟩
theorem retI_ok {w w' : World} {r : List Int × Nat} {l : List Int} {v : Value} (h : r = (l, 0)) (ho : w'.ownsRow w.heap.size 2 1 v l.length (num l)) (hb : Below w.heap.size w w') : RetI w r (.returned (.tuple #[v, .int .i64 0])) w' := by
  subst h
  obtain ⟨A, c, rfl, _⟩ := own_form ho
  exact ⟨A, c, rfl, ho, hb⟩
theorem iget_of {N : Nat} {l : List UInt8} {x : List Int × Nat} (hN : N ≤ 65536) (h : dget N [] l = x) : iget l N = (unchg 0 0 x.1, x.2) := by
  unfold iget; rw [if_neg (by omega), Int.toNat_natCast, h]
theorem rep_succ (n : Nat) (c : Int) (cs : List Int) : cs ++ List.replicate (n + 1) c = (cs ++ List.replicate n c) ++ [c] := by
  rw [List.replicate_succ', List.append_assoc]

theorem rd_via {B : Nat} {w a b : World} {A : Option Addr} {xs : List Value} (h1 : Below B w a) (h2 : Below B w b) (h : Rd a B A xs) : Rd b B A xs :=
  h.keep fun k o hp => (h2.cell (p := ⟨k, o, none⟩) hp).trans (h1.cell (p := ⟨k, o, none⟩) hp).symm

set_option maxHeartbeats 2000000 in
set_option maxRecDepth 100000 in
theorem Get_ints (B : Nat) (A : Option Addr) (c : Nat) (l : List UInt8) (n : Int) (w : World) (h : Rd w B A (cells l)) (hB : B ≤ w.heap.size) (hc : l.length ≤ c) (hl : l.length ≤ 4294967296) (hn : i64 n) :
    Calls Try.prog 106 #[.slice A l.length c, .int .i64 n] w (RetI w (iget l n)) := by
  unfold i64 at hn
  obtain ⟨hn1, hn2⟩ := hn
  by_cases hneg : n < 0
  · have he : iget l n = ([], 1) := by unfold iget; rw [if_pos (.inl hneg)]
    have HE := Lib.hid he
    clear he
    go_enter Try.func106, Try.ntmps106
    go_wp2_with fail
    go_ret2
    exact retI_err HE.out (Below.refl _ _)
  by_cases hbig : 65536 < n
  · have he : iget l n = ([], 1) := by unfold iget; rw [if_pos (.inr hbig)]
    have HE := Lib.hid he
    clear he
    have hneg' : 0 ≤ n := by omega
    clear hneg
    go_enter Try.func106, Try.ntmps106
    go_wp2_with fail
    go_ret2
    exact retI_err HE.out (Below.refl _ _)
  obtain ⟨N, rfl⟩ := Int.eq_ofNat_of_zero_le (show 0 ≤ n by omega)
  have hN : N ≤ 65536 := by omega
  have hd1 : decide ((N : Int) < 0) = false := by simp
  have hd2 : decide (65536 < (N : Int)) = false := by simp; omega
  clear hneg hbig hn1 hn2
  go_enter Try.func106, Try.ntmps106
  go_wp2_with fail
  go_loopw [0, 6, 7, 8, 9] (fun v0 v6 v7 v8 v9 wr => ∃ (cs : List Int) (r : List UInt8) (A0 : Option Addr) (c0 : Nat) (ch : Int), v0 = .slice A0 r.length c0 ∧ r.length ≤ c0 ∧ r.length ≤ l.length ∧ Rd wr B A0 (cells r) ∧ cs.length ≤ N ∧
      wr.ownsRow w.heap.size 2 1 v6 cs.length (num (unchg 0 0 cs)) ∧ v7 = .int .i64 (lst 0 0 cs).1 ∧ v8 = .int .i64 (lst 0 0 cs).2 ∧ v9 = .int .i64 ch ∧ (cs ≠ [] → cs.getLast? = some ch) ∧ dget N [] l = dget N cs r ∧ Below w.heap.size w wr)
    (fun _ v6 _ _ _ _ => N - lenOf v6)
  case atStart => exact ⟨[], l, A, c, 0, rfl, hc, Nat.le_refl _, h, Nat.zero_le _, World.ownsRow_nil _ _ _ _, rfl, rfl, rfl, by simp, rfl, Below.refl _ _⟩
  case round =>
    obtain ⟨cs, r, A0, c0, ch, rfl, hrc, hrl, hrd, hcs, hown, rfl, rfl, rfl, hlast, hget, hnx⟩ := hrel
    have hgs := dget_eq N cs r
    obtain ⟨cl, hcl⟩ : ∃ x, x = cs.length := ⟨_, rfl⟩
    rw [← hcl] at hown hcs hgs
    have HCL := Lib.hid hcl
    clear hcl
    obtain ⟨A6, c6, rfl, hc6⟩ := own_form hown
    have HG := Lib.hid hget
    have HL := Lib.hid hlast
    obtain ⟨s1, hs1⟩ : ∃ x, x = (lst 0 0 cs).1 := ⟨_, rfl⟩
    obtain ⟨s2, hs2⟩ : ∃ x, x = (lst 0 0 cs).2 := ⟨_, rfl⟩
    rw [← hs1, ← hs2]
    have HS1 := Lib.hid hs1
    have HS2 := Lib.hid hs2
    clear hget hlast hs1 hs2
    have HD := Lib.hid hgs
    clear hgs
    by_cases hlt : cl < N
    · have HD1 : Hid (dget N cs r = if r = [] then ([], 20)
          else if (vget r).2.2 ≠ 0 then ([], (vget r).2.2)
          else if (vget r).1 = 0 ∨ N - cl < (vget r).1 then ([], 21)
          else if (vget (r.drop (vget r).2.1)).2.2 ≠ 0 then ([], (vget (r.drop (vget r).2.1)).2.2)
          else if cs ≠ [] ∧ cs.getLast? = some (zag (vget (r.drop (vget r).2.1)).1) then ([], 21)
          else dget N (cs ++ List.replicate (vget r).1 (zag (vget (r.drop (vget r).2.1)).1)) (r.drop ((vget r).2.1 + (vget (r.drop (vget r).2.1)).2.1))) := by
        have := HD.out; rw [if_pos hlt] at this; exact this
      clear HD
      rcases Nat.eq_zero_or_pos r.length with hr0 | hr0
      · have hr : r = [] := List.eq_nil_of_length_eq_zero hr0
        have he : iget l N = ([], 20) := by rw [iget_of hN (HG.out.trans (HD1.out.trans (if_pos hr)))]; rfl
        have HE := Lib.hid he
        subst hr
        clear he HD1 HG hr0
        go_wp2_with fail
        go_ret2
        exact retI_err HE.out hnx
      · have hrne : r ≠ [] := by rintro rfl; simp at hr0
        have G1 := Get_any B A0 c0 r wr hrd (by omega)
        have gb := vget_val r
        have gok := @vget_ok r
        have HD2 : Hid (dget N cs r = if (vget r).2.2 ≠ 0 then ([], (vget r).2.2)
            else if (vget r).1 = 0 ∨ N - cl < (vget r).1 then ([], 21)
            else if (vget (r.drop (vget r).2.1)).2.2 ≠ 0 then ([], (vget (r.drop (vget r).2.1)).2.2)
            else if cs ≠ [] ∧ cs.getLast? = some (zag (vget (r.drop (vget r).2.1)).1) then ([], 21)
            else dget N (cs ++ List.replicate (vget r).1 (zag (vget (r.drop (vget r).2.1)).1)) (r.drop ((vget r).2.1 + (vget (r.drop (vget r).2.1)).2.1))) := by
          have := HD1.out; rw [if_neg hrne] at this; exact this
        clear HD1 hrne
        unfold tri at G1
        generalize vget r = g1 at *
        obtain ⟨mm, u, er⟩ := g1
        dsimp only at HD2 G1 gb
        obtain ⟨gb1, gb2, gb3⟩ := gb
        have K1 := Lib.hid G1
        clear G1 gok
        by_cases her : er = 0
        case neg =>
          have he : iget l N = ([], er) := by rw [iget_of hN (HG.out.trans (HD2.out.trans (if_pos her)))]; rfl
          have HE := Lib.hid he
          have herI : ((er : Int) != 0) = true := by simpa using her
          clear he HD2 HG her
          go_wp2_with fail
          refine K1.out.mono ?_; rintro e w1 ⟨rfl, rfl⟩
          go_wp2_with fail
          go_ret2
          exact retI_err HE.out hnx
        subst her
        by_cases hm0 : mm = 0
        · have he : iget l N = ([], 21) := by rw [iget_of hN (HG.out.trans (HD2.out.trans ((if_neg (by simp)).trans (if_pos (.inl hm0)))))]; rfl
          have HE := Lib.hid he
          subst hm0
          clear he HD2 HG
          go_wp2_with fail
          refine K1.out.mono ?_; rintro e w1 ⟨rfl, rfl⟩
          go_wp2_with fail
          go_ret2
          exact retI_err HE.out hnx
        have hm0I : ((mm : Int) == 0) = false := by simp; omega
        by_cases hmb : N - cl < mm
        · have he : iget l N = ([], 21) := by rw [iget_of hN (HG.out.trans (HD2.out.trans ((if_neg (by simp)).trans (if_pos (.inr hmb)))))]; rfl
          have HE := Lib.hid he
          have hmbI : (N : Int) - (cl : Int) < (mm : Int) := by omega
          clear he HD2 HG hm0
          go_wp2_with fail
          refine K1.out.mono ?_; rintro e w1 ⟨rfl, rfl⟩
          go_wp2_with fail
          go_ret2
          exact retI_err HE.out hnx
        have hmbI : (mm : Int) ≤ (N : Int) - (cl : Int) := by omega
        have HD3 : Hid (dget N cs r = if (vget (r.drop u)).2.2 ≠ 0 then ([], (vget (r.drop u)).2.2)
            else if cs ≠ [] ∧ cs.getLast? = some (zag (vget (r.drop u)).1) then ([], 21)
            else dget N (cs ++ List.replicate mm (zag (vget (r.drop u)).1)) (r.drop (u + (vget (r.drop u)).2.1))) := by
          have := HD2.out; rw [if_neg (by simp), if_neg (by omega)] at this; exact this
        clear HD2
        go_wp2_with fail
        refine K1.out.mono ?_; rintro e w1 ⟨rfl, rfl⟩
        go_wp2_with (refine wpList_from 53 51 52 r u rfl rfl rfl hrc rfl gb3 hrd ?_; intro A2 c2 r2 HR2 hrd2 hrc2)
        have hr2 := HR2.out
        have hr2l : r2.length ≤ l.length := by rw [hr2, List.length_drop]; omega
        rw [← hr2] at HD3
        have hdd : ∀ q, r.drop (u + q) = r2.drop q := fun q => by rw [hr2, List.drop_drop]
        rw [hdd] at HD3
        have HDD := Lib.hid hdd
        clear hdd hr2
        have G2 := Get_any B A2 c2 r2 wr hrd2 (by omega)
        have gb := vget_val r2
        have hq : (vget r2).2.1 ≤ r2.length := gb.2.2
        unfold tri at G2
        generalize vget r2 = g2 at *
        obtain ⟨z, q, er⟩ := g2
        dsimp only at HD3 G2 gb hq
        obtain ⟨gz, gq, _⟩ := gb
        have K2 := Lib.hid G2
        clear G2
        by_cases her : er = 0
        case neg =>
          have he : iget l N = ([], er) := by rw [iget_of hN (HG.out.trans (HD3.out.trans (if_pos her)))]; rfl
          have HE := Lib.hid he
          have herI : ((er : Int) != 0) = true := by simpa using her
          clear he HD3 HG her
          refine K2.out.mono ?_; rintro e w1 ⟨rfl, rfl⟩
          go_wp2_with fail
          go_ret2
          exact retI_err HE.out hnx
        subst her
        have Z1 := fun w => Zag_any z (by omega) (by omega) w
        have HD4 : Hid (dget N cs r = if cs ≠ [] ∧ cs.getLast? = some (zag z) then ([], 21)
            else dget N (cs ++ List.replicate mm (zag z)) (r2.drop q)) := by
          have := HD3.out; rw [if_neg (by simp)] at this; exact this
        obtain ⟨zz, hzz⟩ : ∃ x, x = zag z := ⟨_, rfl⟩
        rw [← hzz] at Z1 HD4
        have K3 := Lib.hid Z1
        clear Z1 HD3 hzz
        have herr : ∀ wx, Below w.heap.size w wx → cs ≠ [] ∧ cs.getLast? = some zz → RetI w (iget l N) (.returned (.tuple #[.slice none 0 0, .int .i64 21])) wx := fun wx hb hx => by
          refine retI_err (x := 21) ?_ hb
          rw [iget_of hN (HG.out.trans (HD4.out.trans (if_pos hx)))]; rfl
        have HERR := Lib.hid herr
        clear herr
        have HQ : Hid (((u : Int) + (q : Int)) = ((u + q : Nat) : Int)) := Lib.hid (by omega)
        have huq : u + q ≤ r.length := by
          have h1 := congrArg List.length HR2.out
          rw [List.length_drop] at h1; omega
        by_cases hx : cs ≠ [] ∧ cs.getLast? = some zz
        · have hzc : zz = ch := by
            have := HL.out hx.1
            rw [hx.2] at this; exact Option.some.inj this
          have hE := fun wx hb => HERR.out wx hb hx
          have hc0 : 0 < cl := by rw [HCL.out]; exact List.length_pos_iff.2 hx.1
          have HE := Lib.hid hE
          subst hzc
          clear hE hx HL HERR HG HD4 HDD HR2
          go_wp2_with fail
          refine K2.out.mono ?_; rintro e w1 ⟨rfl, rfl⟩
          go_wp2_with (go_at_call 78; refine (K3.out _).mono ?_; rintro e w1 ⟨rfl, rfl⟩)
          go_ret2
          exact HE.out _ hnx
        · have hD5 : dget N cs r = dget N (cs ++ List.replicate mm zz) (r2.drop q) := HD4.out.trans (if_neg hx)
          rw [← HDD.out q] at hD5
          have HD5 := Lib.hid (HG.out.trans hD5)
          have hcase : (cl = 0) ∨ (0 < cl ∧ (zz == ch) = false) := by
            rcases Nat.eq_zero_or_pos cl with h0 | h0
            · exact .inl h0
            · refine .inr ⟨h0, ?_⟩
              have hne : cs ≠ [] := List.length_pos_iff.1 (by rw [← HCL.out]; exact h0)
              have h1 := HL.out hne
              simp only [beq_eq_false_iff_ne, ne_eq]
              rintro rfl
              exact hx ⟨hne, h1⟩
          clear hx HL HERR HG HD4 HDD HR2 hD5
          obtain ⟨cn, hcn⟩ : ∃ x, x = cl := ⟨_, rfl⟩
          have hcm : cn + mm ≤ N := by omega
          have HCN := Lib.hid hcn
          clear hcn
          rcases hcase with hc0 | ⟨hc0, hzc⟩
          all_goals
            try subst hc0
            go_wp2_with fail
            refine K2.out.mono ?_; rintro e w1 ⟨rfl, rfl⟩
            go_wp2_with (first
              | (go_at_call 78; refine (K3.out _).mono ?_; rintro e w1 ⟨rfl, rfl⟩)
              | (refine wpList_from 76 72 75 r (u + q) rfl rfl rfl hrc HQ.out huq hrd ?_; intro A3 c3 r3 HR3 hrd3 hrc3))
            go_loopw [6, 7, 8, 80] (fun v6 v7 v8 v80 ws => ∃ (k : Nat), k ≤ mm ∧ v80 = .int .u64 k ∧ ws.ownsRow w.heap.size 2 1 v6 (cn + k) (num (unchg 0 0 (cs ++ List.replicate k zz))) ∧
                v7 = .int .i64 (lst 0 0 (cs ++ List.replicate k zz)).1 ∧ v8 = .int .i64 (lst 0 0 (cs ++ List.replicate k zz)).2 ∧ Below w.heap.size w ws)
              (fun _ _ _ v80 _ => mm - (intOf v80).toNat)
            case atStart => exact ⟨0, Nat.zero_le _, rfl, by rw [HCN.out]; simpa using hown, by simp [HS1.out], by simp [HS2.out], hnx⟩
            case round =>
              obtain ⟨k, hk, rfl, hown', hv7, hv8, hnx'⟩ := hrel
              subst hv7 hv8
              obtain ⟨A7, c7, rfl, hc7⟩ := own_form hown'
              obtain ⟨t1, ht1⟩ : ∃ x, x = (lst 0 0 (cs ++ List.replicate k zz)).1 := ⟨_, rfl⟩
              obtain ⟨t2, ht2⟩ : ∃ x, x = (lst 0 0 (cs ++ List.replicate k zz)).2 := ⟨_, rfl⟩
              rw [← ht1, ← ht2]
              have HT1 := Lib.hid ht1
              have HT2 := Lib.hid ht2
              clear ht1 ht2
              by_cases hkm : k < mm
              · go_wp2_with (at_builtin; refine wpList_app El_i64 rfl _ _ rfl (hown'.alloc _) rfl rfl (by exact rd_one _ _ _ _ _ rfl (Nat.lt_add_one _)) rfl one_int (by unfold maxLen; omega) (by omega) (by have := hnx'.size; simp; omega) ?_; intro v2 w2 hown2 hg2 _)
                have hb2 : Below w.heap.size w w2 := (hnx'.alloc hnx'.size _).trans (own_below (hown'.alloc _) hg2 (by have := hnx'.size; simp; omega))
                go_roundw
                case rel =>
                  refine ⟨k + 1, by omega, by go_num, ?_, ?_, ?_, hb2⟩
                  · rw [rep_succ, unchg_snoc, ← HT1.out, ← HT2.out]
                    rw [← Nat.add_assoc]
                    simpa [num] using hown2
                  · rw [rep_succ, lst_snoc, ← HT1.out, ← HT2.out]
                  · rw [rep_succ, lst_snoc, ← HT1.out, ← HT2.out]
                case measure => simp [intOf]; omega
              · have hkk : k = mm := by omega
                subst hkk
                go_wp2_with fail
                go_roundw
                case rel =>
                  have hm1 : 1 ≤ k := by omega
                  have hlr := last_rep k zz cs hm1
                  have hln : (cs ++ List.replicate k zz).length = cn + k := by rw [List.length_append, List.length_replicate, ← HCL.out, HCN.out]
                  refine ⟨cs ++ List.replicate k zz, r3, A3, c3, zz, rfl, hrc3, ?_, rd_via (hnx.mono hB) (hnx'.mono hB) hrd3, ?_, ?_, by rw [HT1.out], by rw [HT2.out], rfl, fun _ => hlr.2, ?_, hnx'⟩
                  · rw [HR3.out, List.length_drop]; omega
                  · rw [hln]; omega
                  · rw [hln]; exact hown'
                  · rw [HR3.out]; exact HD5.out
                case measure =>
                  have h1 := HCN.out
                  simp [lenOf]; omega
    · have hcl : cl = N := by omega
      have HD1 : Hid (dget N cs r = if r ≠ [] then ([], 21) else (cs, 0)) := by
        have := HD.out; rw [if_neg hlt] at this; exact this
      clear HD
      rcases Nat.eq_zero_or_pos r.length with hr0 | hr0
      · have hr : r = [] := List.eq_nil_of_length_eq_zero hr0
        have he : iget l N = (unchg 0 0 cs, 0) := by rw [iget_of hN (HG.out.trans (HD1.out.trans (if_neg (by simp [hr]))))]
        have HE := Lib.hid he
        subst hr
        clear he HD1 HG hr0
        have hln : (unchg 0 0 cs).length = N := by rw [unchg_length, ← HCL.out, hcl]
        have HLN := Lib.hid hln
        subst hcl
        clear hln
        go_wp2_with fail
        go_ret2
        exact retI_ok HE.out (by rw [HLN.out]; exact hown) hnx
      · have hrne : r ≠ [] := by rintro rfl; simp at hr0
        have he : iget l N = ([], 21) := by rw [iget_of hN (HG.out.trans (HD1.out.trans (if_pos hrne)))]; rfl
        have HE := Lib.hid he
        subst hcl
        clear he HD1 HG hrne
        go_wp2_with fail
        go_ret2
        exact retI_err HE.out hnx
end Go.Proofs.Ythkpgjcnnfdibaa.In

/-! The walks of the reference of layer 5: Changes, Put, Same answer what the plain functions say. For rows of at most 2^32. -/
namespace Go.Proofs.Ythkpgjcnnfdibaa.In
open Go.RowKit
set_option linter.unusedVariables false
set_option linter.unusedSimpArgs false

abbrev ucells (l : List Int) : List Value := l.map fun c => Value.int .u64 (toU c)
theorem Try.infoU64 : (Try.prog.info? 55).map (fun i => (i.zero, i.size, i.bytes)) = some (some (.int .u64 0), 1, 8) := by kernel_rfl
theorem El_u64 : El Try.prog 127 55 1 8 := el_of Try.underlying127 Try.infoU64 rfl (by decide)
theorem ucells_snoc (l : List Int) (c : Int) : ucells (l ++ [c]) = ucells l ++ [.int .u64 (toU c)] := by simp [ucells]

set_option maxHeartbeats 2000000 in
set_option maxRecDepth 100000 in
theorem rChanges_any (B : Nat) (A : Option Addr) (c : Nat) (l : List Int) (w : World) (h : Rd w B A (num l)) (hB : B ≤ w.heap.size) (hl : l.length ≤ 4294967296) :
    Calls Try.prog 109 #[.slice A l.length c] w fun e w' => ∃ A' c', e = .returned (.slice A' l.length c') ∧ w'.ownsRow w.heap.size 55 1 (.slice A' l.length c') l.length (ucells (chg 0 0 l)) ∧ Below w.heap.size w w' := by
  go_enter Try.func109, Try.ntmps109
  go_wp2
  go_loopw [3, 4] (fun v3 v4 wr => ∃ k : Nat, k ≤ l.length ∧ v4 = .int .i64 k ∧ wr.ownsRow w.heap.size 55 1 v3 k (ucells (chg 0 0 (l.take k))) ∧ Below w.heap.size w wr)
    (fun _ v4 _ => l.length - (intOf v4).toNat)
  case atStart => exact ⟨0, by omega, rfl, World.ownsRow_nil _ _ _ _, Below.refl _ _⟩
  case round =>
    obtain ⟨k, hk, rfl, hown, hnx⟩ := hrel
    obtain ⟨A3, c3, rfl, hc3⟩ := own_form hown
    by_cases hlt : k < l.length
    · obtain ⟨b, o, rfl, hb, hcell⟩ := h.at (k := k) (by simpa using hlt)
      have hcl : ∀ j (hj : j < l.length), wr.cell? ⟨b, o + j, none⟩ = some (.int .i64 l[j]) := fun j hj => (hnx.cell (p := ⟨b, o + j, none⟩) (by show b < _; omega)).trans (hcell j _ (by simp [hj]))
      have hck := hcl k hlt
      obtain ⟨x, hx⟩ : ∃ x, x = l[k] := ⟨_, rfl⟩
      rw [← hx] at hck
      have hts : chg 0 0 (l.take (k + 1)) = chg 0 0 (l.take k) ++ [wrap64 (wrap64 (x - (cst 0 0 (l.take k)).1) - (cst 0 0 (l.take k)).2)] := by
        rw [take_snoc l k hlt, chg_snoc, hx]
      have HT := Lib.hid hts
      have HC := Lib.hid hcl
      clear hts hcl hcell hx
      have hwu := wrapU
      rcases Nat.lt_or_ge k 2 with h2 | h2
      · rcases Nat.lt_or_ge k 1 with h1 | h1
        · have hk0 : k = 0 := by omega
          subst hk0
          rw [Nat.add_zero] at hck
          go_wp2_with (at_builtin; refine wpList_app El_u64 rfl _ _ rfl (hown.alloc _) rfl rfl (by exact rd_one _ _ _ _ _ rfl (Nat.lt_add_one _)) rfl one_int (by unfold maxLen; omega) (by omega) (by have := hnx.size; simp; omega) ?_; intro v2 w2 hown2 hg2 _)
          have hb2 : Below w.heap.size w w2 := (hnx.alloc hnx.size _).trans (own_below (hown.alloc _) hg2 (by have := hnx.size; simp; omega))
          go_roundw
          case rel =>
            refine ⟨1, by omega, by go_num, ?_, hb2⟩
            have := HT.out
            rw [Nat.zero_add] at this
            rw [this, ucells_snoc, List.take_zero, show cst 0 0 [] = (0, 0) from rfl, step0]
            have e : toU (toU (toU x)) = toU x := by unfold toU; omega
            rw [e, List.take_zero] at hown2
            simpa using hown2
          case measure => simp [intOf]; omega
        · have hk1 : k = 1 := by omega
          subst hk1
          have hc0 := HC.out 0 (by omega)
          obtain ⟨y, hy⟩ : ∃ y, y = l[0] := ⟨_, rfl⟩
          rw [← hy, Nat.add_zero] at hc0
          have hcs : cst 0 0 (l.take 1) = (y, wrap64 (y - 0)) := by
            rw [show (1 : Nat) = 0 + 1 from rfl, take_snoc l 0 (by omega), cst_snoc, hy]; rfl
          have HS := Lib.hid hcs
          clear hcs hy
          go_wp2_with (at_builtin; refine wpList_app El_u64 rfl _ _ rfl (hown.alloc _) rfl rfl (by exact rd_one _ _ _ _ _ rfl (Nat.lt_add_one _)) rfl one_int (by unfold maxLen; omega) (by omega) (by have := hnx.size; simp; omega) ?_; intro v2 w2 hown2 hg2 _)
          have hb2 : Below w.heap.size w w2 := (hnx.alloc hnx.size _).trans (own_below (hown.alloc _) hg2 (by have := hnx.size; simp; omega))
          go_roundw
          case rel =>
            refine ⟨1 + 1, by omega, by go_num, ?_, hb2⟩
            rw [HT.out, ucells_snoc, HS.out, step1]
            simpa using hown2
          case measure => simp [intOf]; omega
      · obtain ⟨p, rfl⟩ : ∃ p, k = p + 2 := ⟨k - 2, by omega⟩
        have hc0 := HC.out p (by omega)
        have hc1 := HC.out (p + 1) (by omega)
        obtain ⟨y, hy⟩ : ∃ y, y = l[p + 1] := ⟨_, rfl⟩
        obtain ⟨z, hz⟩ : ∃ y, y = l[p] := ⟨_, rfl⟩
        rw [← hy] at hc1
        rw [← hz] at hc0
        have hcs : cst 0 0 (l.take (p + 2)) = (y, wrap64 (y - z)) := by
          rw [take_snoc l (p + 1) (by omega), cst_snoc, take_snoc l p (by omega), cst_snoc, hy, hz]
        have HS := Lib.hid hcs
        clear hcs hy hz h2
        go_wp2_with (at_builtin; refine wpList_app El_u64 rfl _ _ rfl (hown.alloc _) rfl rfl (by exact rd_one _ _ _ _ _ rfl (Nat.lt_add_one _)) rfl one_int (by unfold maxLen; omega) (by omega) (by have := hnx.size; simp; omega) ?_; intro v2 w2 hown2 hg2 _)
        have hb2 : Below w.heap.size w w2 := (hnx.alloc hnx.size _).trans (own_below (hown.alloc _) hg2 (by have := hnx.size; simp; omega))
        go_roundw
        case rel =>
          refine ⟨p + 2 + 1, by omega, by go_num, ?_, hb2⟩
          rw [HT.out, ucells_snoc, HS.out, step2]
          simpa using hown2
        case measure => simp [intOf]; omega
    · have hkk : k = l.length := by omega
      subst hkk
      rw [List.take_length] at hown
      go_wp2
      go_ret
      exact ⟨_, _, rfl, hown, hnx⟩
end Go.Proofs.Ythkpgjcnnfdibaa.In

/-! The walk of the reference's Put (layer 5): it answers iput. For rows of at most 65536. -/
namespace Go.Proofs.Ythkpgjcnnfdibaa.In
open Go.RowKit
set_option linter.unusedVariables false
set_option linter.unusedSimpArgs false

theorem own_bel {w w' : World} {base : Nat} {e : TypeId} {sz n : Nat} {v : Value} {xs : List Value} (h : w.ownsRow base e sz v n xs) (hb : Below w.heap.size w w') : w'.ownsRow base e sz v n xs := by
  obtain ⟨h1, h2⟩ := h
  refine ⟨h1, ?_⟩
  rcases h2 with h2 | ⟨g, cap, cur, hv, hbase, hg, rest⟩
  · exact .inl h2
  · exact .inr ⟨g, cap, cur, hv, hbase, (hb.block g (Array.getElem?_eq_some_iff.1 hg).1).trans hg, rest⟩

set_option maxHeartbeats 4000000 in
set_option maxRecDepth 100000 in
theorem rPut_ints (B : Nat) (A : Option Addr) (c : Nat) (l : List Int) (w : World) (h : Rd w B A (num l)) (hB : B ≤ w.heap.size) (hl : l.length ≤ 65536) :
    Calls Try.prog 94 #[.slice A l.length c] w (RetB w (iput l)) := by
  have C1 := rChanges_any B A c l w h hB (by omega)
  have hip : iput l = (rl 0 0 (chg 0 0 l)).flatMap enc1 := rfl
  rw [hip]
  have hCi := chg_i64 l 0 0
  have hCl := chg_length l 0 0
  obtain ⟨C, hC⟩ : ∃ C, C = chg 0 0 l := ⟨_, rfl⟩
  rw [← hC] at C1 hCi hCl ⊢
  rw [← hCl] at C1
  obtain ⟨N, hN⟩ : ∃ N, N = C.length := ⟨_, rfl⟩
  rw [← hN] at C1 hCl
  rw [← hCl]
  have hN6 : N ≤ 65536 := by omega
  have HC1 := Lib.hid C1
  have HN := Lib.hid hN
  have HI := Lib.hid hCi
  clear hC hip C1 hCl hCi hN h
  go_enter Try.func94, Try.ntmps94
  go_wp2_with fail
  have C1 := HC1.out
  refine C1.mono ?_; rintro e w1 ⟨A1, c1, rfl, hown1, hb1⟩
  clear C1 HC1
  have hz1 := hb1.size
  have hrd1 : Rd w1 w1.heap.size A1 (ucells C) := rd_own hown1
  go_wp2_with fail
  go_loopw [4, 5, 6] (fun v4 v5 v6 wr => ∃ (k m : Nat) (ch : Int) (pre : List (Nat × Int)) (bs : List UInt8), k ≤ N ∧ m ≤ k ∧ v5 = .int .u64 m ∧ v6 = .int .i64 k ∧ rl 0 0 C = pre ++ rl m ch (C.drop k) ∧ (m ≠ 0 → C[k]? = some ch) ∧
      bs = pre.flatMap enc1 ∧ bs.length ≤ 20 * k ∧ wr.ownsRow w1.heap.size 5 1 v4 bs.length (cells bs) ∧ Below w1.heap.size w1 wr)
    (fun _ _ v6 _ => N - (intOf v6).toNat)
  case atStart => exact ⟨0, 0, 0, [], [], by omega, by omega, rfl, rfl, rfl, by simp, rfl, by simp, World.ownsRow_nil _ _ _ _, Below.refl _ _⟩
  case round =>
    obtain ⟨k, m, ch, pre, bs, hk, hm, rfl, rfl, hR, hch, hbs, hbl, hown, hnx⟩ := hrel
    obtain ⟨A4, c4, rfl, hc4⟩ := own_form hown
    have HR := Lib.hid hR
    have HCH := Lib.hid hch
    have HBS := Lib.hid hbs
    clear hR hch hbs
    by_cases hlt : k < N
    · obtain ⟨b, o, rfl, hb, hcell⟩ := hrd1.at (k := k) (by simp [← HN.out]; exact hlt)
      obtain ⟨x, hx⟩ : ∃ x, C[k]? = some x := ⟨_, List.getElem?_eq_getElem (by rw [← HN.out]; exact hlt)⟩
      have hxi : i64 x := HI.out x (List.mem_of_getElem? hx)
      have hck := hcell k (.int .u64 (toU x)) (by rw [List.getElem?_map, hx]; rfl)
      have hmx : m ≠ 0 → ch = x := fun h0 => by
        have := HCH.out h0
        rw [hx] at this; exact (Option.some.inj this).symm
      have hdr : C.drop k = x :: C.drop (k + 1) := by
        have h1 : k < C.length := by rw [← HN.out]; exact hlt
        rw [List.drop_eq_getElem_cons h1]
        rw [List.getElem?_eq_getElem h1] at hx
        rw [Option.some.inj hx]
      have hR2 : rl 0 0 C = pre ++ rl (m + 1) x (C.drop (k + 1)) := by rw [HR.out, hdr, rl_go hmx]
      have HR2 := Lib.hid hR2
      have HXI := Lib.hid hxi
      have F1 : ∀ w', Below w1.heap.size w1 w' → w'.cell? ⟨b, o + k, none⟩ = some (.int .u64 (toU x)) := fun w' hw => (hw.cell (p := ⟨b, o + k, none⟩) hb).trans hck
      have HX := Lib.hid hx
      have hlI : (k : Int) < (N : Int) := by omega
      have hkI0 : (0 : Int) ≤ (k : Int) + 1 := by omega
      have hwk : IntKind.i64.wrap ((k : Int) + 1) = (k : Int) + 1 := by rw [IntKind.wrap_i64]; omega
      have hmI : (m : Int) ≤ 65536 := by omega
      have ht1 : ((k : Int) + 1).toNat = k + 1 := by omega
      have HW := Lib.hid hwk
      have HT := Lib.hid ht1
      clear HR HCH hR2 hxi hmx hdr hx hwk ht1
      have hcase : (k + 1 < N ∧ C[k + 1]? = some x) ∨ (k + 1 < N ∧ C[k + 1]? ≠ some x) ∨ k + 1 = N := by
        rcases Nat.lt_or_ge (k + 1) N with h1 | h1
        · by_cases h2 : C[k + 1]? = some x
          · exact .inl ⟨h1, h2⟩
          · exact .inr (.inl ⟨h1, h2⟩)
        · exact .inr (.inr (by omega))
      rcases hcase with ⟨h1, h2⟩ | hcase
      · have hck2 := hcell (k + 1) (.int .u64 (toU x)) (by rw [List.getElem?_map, h2]; rfl)
        have F2 : ∀ w', Below w1.heap.size w1 w' → w'.cell? ⟨b, o + (k + 1), none⟩ = some (.int .u64 (toU x)) := fun w' hw => (hw.cell (p := ⟨b, o + (k + 1), none⟩) hb).trans hck2
        have h1I : (k : Int) + 1 < (N : Int) := by omega
        have H2 := Lib.hid h2
        clear hcell h2 hck2 hck
        go_wp2_with fail
        refine ah_start 17 (fun w' => Below w1.heap.size w1 w') rfl (by kernel_rfl) hnx.drew ?_
        intro hS
        (refine mv_val 0 (v := ?_) rfl (by kernel_rfl) (by kernel_rfl) (by kernel_rfl) (fun _ _ _ h => h) (by rfl) hS ?_ ?_; rotate_left; (focus (intro w hSw; (try dsimp only at hSw); (have f1 := F1 w hSw; have f2 := F2 w hSw; have f3 := hlI; have f4 := h1I; have f5 := HW.out; have f6 := HT.out; have f7 := hkI0); go_simp; first | done | with_reducible rfl)); simp only [Act.put, List.setIfInBounds_toArray, List.set_cons_zero, List.set_cons_succ])
        (refine mv_val 1 (v := ?_) rfl (by kernel_rfl) (by kernel_rfl) (by kernel_rfl) (fun _ _ _ h => h) (by rfl) hS ?_ ?_; rotate_left; (focus (intro w hSw; (try dsimp only at hSw); (have f1 := F1 w hSw; have f2 := F2 w hSw; have f3 := hlI; have f4 := h1I; have f5 := HW.out; have f6 := HT.out; have f7 := hkI0); go_simp; first | done | with_reducible rfl)); simp only [Act.put, List.setIfInBounds_toArray, List.set_cons_zero, List.set_cons_succ])
        (refine mv_val 2 (v := ?_) rfl (by kernel_rfl) (by kernel_rfl) (by kernel_rfl) (fun _ _ _ h => h) (by rfl) hS ?_ ?_; rotate_left; (focus (intro w hSw; (try dsimp only at hSw); (have f1 := F1 w hSw; have f2 := F2 w hSw; have f3 := hlI; have f4 := h1I; have f5 := HW.out; have f6 := HT.out; have f7 := hkI0); go_simp; first | done | with_reducible rfl)); simp only [Act.put, List.setIfInBounds_toArray, List.set_cons_zero, List.set_cons_succ])
        (refine mv_val 3 (v := ?_) rfl (by kernel_rfl) (by kernel_rfl) (by kernel_rfl) (fun _ _ _ h => h) (by rfl) hS ?_ ?_; rotate_left; (focus (intro w hSw; (try dsimp only at hSw); (have f1 := F1 w hSw; have f2 := F2 w hSw; have f3 := hlI; have f4 := h1I; have f5 := HW.out; have f6 := HT.out; have f7 := hkI0); go_simp; first | done | with_reducible rfl)); simp only [Act.put, List.setIfInBounds_toArray, List.set_cons_zero, List.set_cons_succ])
        (refine mv_val 4 (v := ?_) rfl (by kernel_rfl) (by kernel_rfl) (by kernel_rfl) (fun _ _ _ h => h) (by rfl) hS ?_ ?_; rotate_left; (focus (intro w hSw; (try dsimp only at hSw); (have f1 := F1 w hSw; have f2 := F2 w hSw; have f3 := hlI; have f4 := h1I; have f5 := HW.out; have f6 := HT.out; have f7 := hkI0); go_simp; first | done | with_reducible rfl)); simp only [Act.put, List.setIfInBounds_toArray, List.set_cons_zero, List.set_cons_succ])
        (refine mv_val 5 (v := ?_) rfl (by kernel_rfl) (by kernel_rfl) (by kernel_rfl) (fun _ _ _ h => h) (by rfl) hS ?_ ?_; rotate_left; (focus (intro w hSw; (try dsimp only at hSw); (have f1 := F1 w hSw; have f2 := F2 w hSw; have f3 := hlI; have f4 := h1I; have f5 := HW.out; have f6 := HT.out; have f7 := hkI0); go_simp; first | done | with_reducible rfl)); simp only [Act.put, List.setIfInBounds_toArray, List.set_cons_zero, List.set_cons_succ])
        (refine mv_val 6 (v := ?_) rfl (by kernel_rfl) (by kernel_rfl) (by kernel_rfl) (fun _ _ _ h => h) (by rfl) hS ?_ ?_; rotate_left; (focus (intro w hSw; (try dsimp only at hSw); (have f1 := F1 w hSw; have f2 := F2 w hSw; have f3 := hlI; have f4 := h1I; have f5 := HW.out; have f6 := HT.out; have f7 := hkI0); go_simp; first | done | with_reducible rfl)); simp only [Act.put, List.setIfInBounds_toArray, List.set_cons_zero, List.set_cons_succ])
        (refine mv_val 7 (v := ?_) rfl (by kernel_rfl) (by kernel_rfl) (by kernel_rfl) (fun _ _ _ h => h) (by rfl) hS ?_ ?_; rotate_left; (focus (intro w hSw; (try dsimp only at hSw); (have f1 := F1 w hSw; have f2 := F2 w hSw; have f3 := hlI; have f4 := h1I; have f5 := HW.out; have f6 := HT.out; have f7 := hkI0); go_simp; first | done | with_reducible rfl)); simp only [Act.put, List.setIfInBounds_toArray, List.set_cons_zero, List.set_cons_succ])
        (refine mv_val 8 (v := ?_) rfl (by kernel_rfl) (by kernel_rfl) (by kernel_rfl) (fun _ _ _ h => h) (by rfl) hS ?_ ?_; rotate_left; (focus (intro w hSw; (try dsimp only at hSw); (have f1 := F1 w hSw; have f2 := F2 w hSw; have f3 := hlI; have f4 := h1I; have f5 := HW.out; have f6 := HT.out; have f7 := hkI0); go_simp; first | done | with_reducible rfl)); simp only [Act.put, List.setIfInBounds_toArray, List.set_cons_zero, List.set_cons_succ])
        (refine mv_val 9 (v := ?_) rfl (by kernel_rfl) (by kernel_rfl) (by kernel_rfl) (fun _ _ _ h => h) (by rfl) hS ?_ ?_; rotate_left; (focus (intro w hSw; (try dsimp only at hSw); (have f1 := F1 w hSw; have f2 := F2 w hSw; have f3 := hlI; have f4 := h1I; have f5 := HW.out; have f6 := HT.out; have f7 := hkI0); go_simp; first | done | with_reducible rfl)); simp only [Act.put, List.setIfInBounds_toArray, List.set_cons_zero, List.set_cons_succ])
        (refine mv_val 10 (v := ?_) rfl (by kernel_rfl) (by kernel_rfl) (by kernel_rfl) (fun _ _ _ h => h) (by rfl) hS ?_ ?_; rotate_left; (focus (intro w hSw; (try dsimp only at hSw); (have f1 := F1 w hSw; have f2 := F2 w hSw; have f3 := hlI; have f4 := h1I; have f5 := HW.out; have f6 := HT.out; have f7 := hkI0); go_simp; first | done | with_reducible rfl)); simp only [Act.put, List.setIfInBounds_toArray, List.set_cons_zero, List.set_cons_succ])
        (refine mv_val 11 (v := ?_) rfl (by kernel_rfl) (by kernel_rfl) (by kernel_rfl) (fun _ _ _ h => h) (by rfl) hS ?_ ?_; rotate_left; (focus (intro w hSw; (try dsimp only at hSw); (have f1 := F1 w hSw; have f2 := F2 w hSw; have f3 := hlI; have f4 := h1I; have f5 := HW.out; have f6 := HT.out; have f7 := hkI0); go_simp; first | done | with_reducible rfl)); simp only [Act.put, List.setIfInBounds_toArray, List.set_cons_zero, List.set_cons_succ])
        (refine mv_val 12 (v := ?_) rfl (by kernel_rfl) (by kernel_rfl) (by kernel_rfl) (fun _ _ _ h => h) (by rfl) hS ?_ ?_; rotate_left; (focus (intro w hSw; (try dsimp only at hSw); (have f1 := F1 w hSw; have f2 := F2 w hSw; have f3 := hlI; have f4 := h1I; have f5 := HW.out; have f6 := HT.out; have f7 := hkI0); go_simp; first | done | with_reducible rfl)); simp only [Act.put, List.setIfInBounds_toArray, List.set_cons_zero, List.set_cons_succ])
        (refine mv_val 13 (v := ?_) rfl (by kernel_rfl) (by kernel_rfl) (by kernel_rfl) (fun _ _ _ h => h) (by rfl) hS ?_ ?_; rotate_left; (focus (intro w hSw; (try dsimp only at hSw); (have f1 := F1 w hSw; have f2 := F2 w hSw; have f3 := hlI; have f4 := h1I; have f5 := HW.out; have f6 := HT.out; have f7 := hkI0); go_simp; first | done | with_reducible rfl)); simp only [Act.put, List.setIfInBounds_toArray, List.set_cons_zero, List.set_cons_succ])
        (refine mv_val 14 (v := ?_) rfl (by kernel_rfl) (by kernel_rfl) (by kernel_rfl) (fun _ _ _ h => h) (by rfl) hS ?_ ?_; rotate_left; (focus (intro w hSw; (try dsimp only at hSw); (have f1 := F1 w hSw; have f2 := F2 w hSw; have f3 := hlI; have f4 := h1I; have f5 := HW.out; have f6 := HT.out; have f7 := hkI0); go_simp; first | done | with_reducible rfl)); simp only [Act.put, List.setIfInBounds_toArray, List.set_cons_zero, List.set_cons_succ])
        (refine mv_val 15 (v := ?_) rfl (by kernel_rfl) (by kernel_rfl) (by kernel_rfl) (fun _ _ _ h => h) (by rfl) hS ?_ ?_; rotate_left; (focus (intro w hSw; (try dsimp only at hSw); (have f1 := F1 w hSw; have f2 := F2 w hSw; have f3 := hlI; have f4 := h1I; have f5 := HW.out; have f6 := HT.out; have f7 := hkI0); go_simp; first | done | with_reducible rfl)); simp only [Act.put, List.setIfInBounds_toArray, List.set_cons_zero, List.set_cons_succ])
        (refine mv_val 16 (v := ?_) rfl (by kernel_rfl) (by kernel_rfl) (by kernel_rfl) (fun _ _ _ h => h) (by rfl) hS ?_ ?_; rotate_left; (focus (intro w hSw; (try dsimp only at hSw); (have f1 := F1 w hSw; have f2 := F2 w hSw; have f3 := hlI; have f4 := h1I; have f5 := HW.out; have f6 := HT.out; have f7 := hkI0); go_simp; first | done | with_reducible rfl)); simp only [Act.put, List.setIfInBounds_toArray, List.set_cons_zero, List.set_cons_succ])
        refine wpAnyH_done (by kernel_rfl) ?_ _
        go_wp2_with fail
        go_roundw
        case rel =>
          exact ⟨k + 1, m + 1, x, pre, bs, by omega, by omega, by go_num, by go_num, HR2.out, fun _ => H2.out, HBS.out, by omega, hown.drew, hS⟩
        case measure => simp [intOf]; omega
      · have hhd : (C.drop (k + 1)).head? ≠ some x := by
          rw [List.head?_drop]
          rcases hcase with ⟨h1, h2⟩ | h1
          · exact h2
          · rw [List.getElem?_eq_none (by rw [← HN.out]; omega)]; simp
        have hR3 : rl 0 0 C = (pre ++ [(m + 1, x)]) ++ rl 0 0 (C.drop (k + 1)) := by rw [HR2.out, rl_end (by omega) _ hhd]; simp
        have HR3 := Lib.hid hR3
        have hz := zig_nat HXI.out
        have P1 := fun w => rPut_any (m + 1) (by omega) w
        rw [show ((m + 1 : Nat) : Int) = (m : Int) + 1 from rfl] at P1
        have Z1 := fun w => rZig_any x HXI.out.1 HXI.out.2 w
        rw [← hz.2] at Z1
        have P2 := fun w => rPut_any (zig x).toNat hz.1 w
        have hl1 := vput_length64 (show m + 1 < 18446744073709551616 by omega)
        have hl2 := vput_length64 hz.1
        have he1 : enc1 (m + 1, x) = vput (m + 1) ++ vput (zig x).toNat := rfl
        obtain ⟨z, hzz⟩ : ∃ z, z = (zig x).toNat := ⟨_, rfl⟩
        obtain ⟨e1, hee1⟩ : ∃ z, z = vput (m + 1) := ⟨_, rfl⟩
        obtain ⟨e2, hee2⟩ : ∃ z, z = vput (zig x).toNat := ⟨_, rfl⟩
        rw [← hee1, ← hee2] at he1
        rw [← hee1] at P1 hl1
        rw [← hee2] at P2 hl2
        rw [← hzz] at P2 Z1
        have HP1 := Lib.hid P1
        have HP2 := Lib.hid P2
        have HZ := Lib.hid Z1
        have HE := Lib.hid he1
        have hub : wrap64 (toU x) = x := u64_back HXI.out
        have HUB := Lib.hid hub
        clear hR3 hz P1 P2 Z1 he1 hzz hee1 hee2 HR2 hhd hub
        rcases hcase with ⟨h1, h2⟩ | h1
        · obtain ⟨y, hy⟩ : ∃ y, C[k + 1]? = some y := ⟨_, List.getElem?_eq_getElem (by rw [← HN.out]; exact h1)⟩
          have hck2 := hcell (k + 1) (.int .u64 (toU y)) (by rw [List.getElem?_map, hy]; rfl)
          have F2 : ∀ w', Below w1.heap.size w1 w' → w'.cell? ⟨b, o + (k + 1), none⟩ = some (.int .u64 (toU y)) := fun w' hw => (hw.cell (p := ⟨b, o + (k + 1), none⟩) hb).trans hck2
          have h1I : (k : Int) + 1 < (N : Int) := by omega
          have hne : ¬ toU y = toU x := fun e => h2 (by rw [hy, u64_inj (HI.out y (List.mem_of_getElem? hy)) HXI.out e])
          have HNE : Hid ((toU y == toU x) = false) := Lib.hid (by simpa using hne)
          clear hcell h2 hck2 hck hy hne
          go_wp2_with fail
          refine ah_start 17 (fun w' => Below w1.heap.size w1 w') rfl (by kernel_rfl) hnx.drew ?_
          intro hS
          (refine mv_val 0 (v := ?_) rfl (by kernel_rfl) (by kernel_rfl) (by kernel_rfl) (fun _ _ _ h => h) (by rfl) hS ?_ ?_; rotate_left; (focus (intro w hSw; (try dsimp only at hSw); (have f1 := F1 w hSw; have f2 := F2 w hSw; have f3 := hlI; have f4 := h1I; have f5 := HW.out; have f6 := HT.out; have f7 := hkI0; have f8 := HNE.out); go_simp; first | done | with_reducible rfl)); simp only [Act.put, List.setIfInBounds_toArray, List.set_cons_zero, List.set_cons_succ])
          (refine mv_val 1 (v := ?_) rfl (by kernel_rfl) (by kernel_rfl) (by kernel_rfl) (fun _ _ _ h => h) (by rfl) hS ?_ ?_; rotate_left; (focus (intro w hSw; (try dsimp only at hSw); (have f1 := F1 w hSw; have f2 := F2 w hSw; have f3 := hlI; have f4 := h1I; have f5 := HW.out; have f6 := HT.out; have f7 := hkI0; have f8 := HNE.out); go_simp; first | done | with_reducible rfl)); simp only [Act.put, List.setIfInBounds_toArray, List.set_cons_zero, List.set_cons_succ])
          (refine mv_val 2 (v := ?_) rfl (by kernel_rfl) (by kernel_rfl) (by kernel_rfl) (fun _ _ _ h => h) (by rfl) hS ?_ ?_; rotate_left; (focus (intro w hSw; (try dsimp only at hSw); (have f1 := F1 w hSw; have f2 := F2 w hSw; have f3 := hlI; have f4 := h1I; have f5 := HW.out; have f6 := HT.out; have f7 := hkI0; have f8 := HNE.out); go_simp; first | done | with_reducible rfl)); simp only [Act.put, List.setIfInBounds_toArray, List.set_cons_zero, List.set_cons_succ])
          (refine mv_val 3 (v := ?_) rfl (by kernel_rfl) (by kernel_rfl) (by kernel_rfl) (fun _ _ _ h => h) (by rfl) hS ?_ ?_; rotate_left; (focus (intro w hSw; (try dsimp only at hSw); (have f1 := F1 w hSw; have f2 := F2 w hSw; have f3 := hlI; have f4 := h1I; have f5 := HW.out; have f6 := HT.out; have f7 := hkI0; have f8 := HNE.out); go_simp; first | done | with_reducible rfl)); simp only [Act.put, List.setIfInBounds_toArray, List.set_cons_zero, List.set_cons_succ])
          (refine mv_val 4 (v := ?_) rfl (by kernel_rfl) (by kernel_rfl) (by kernel_rfl) (fun _ _ _ h => h) (by rfl) hS ?_ ?_; rotate_left; (focus (intro w hSw; (try dsimp only at hSw); (have f1 := F1 w hSw; have f2 := F2 w hSw; have f3 := hlI; have f4 := h1I; have f5 := HW.out; have f6 := HT.out; have f7 := hkI0; have f8 := HNE.out); go_simp; first | done | with_reducible rfl)); simp only [Act.put, List.setIfInBounds_toArray, List.set_cons_zero, List.set_cons_succ])
          (refine mv_val 5 (v := ?_) rfl (by kernel_rfl) (by kernel_rfl) (by kernel_rfl) (fun _ _ _ h => h) (by rfl) hS ?_ ?_; rotate_left; (focus (intro w hSw; (try dsimp only at hSw); (have f1 := F1 w hSw; have f2 := F2 w hSw; have f3 := hlI; have f4 := h1I; have f5 := HW.out; have f6 := HT.out; have f7 := hkI0; have f8 := HNE.out); go_simp; first | done | with_reducible rfl)); simp only [Act.put, List.setIfInBounds_toArray, List.set_cons_zero, List.set_cons_succ])
          (refine mv_val 6 (v := ?_) rfl (by kernel_rfl) (by kernel_rfl) (by kernel_rfl) (fun _ _ _ h => h) (by rfl) hS ?_ ?_; rotate_left; (focus (intro w hSw; (try dsimp only at hSw); (have f1 := F1 w hSw; have f2 := F2 w hSw; have f3 := hlI; have f4 := h1I; have f5 := HW.out; have f6 := HT.out; have f7 := hkI0; have f8 := HNE.out); go_simp; first | done | with_reducible rfl)); simp only [Act.put, List.setIfInBounds_toArray, List.set_cons_zero, List.set_cons_succ])
          (refine mv_val 7 (v := ?_) rfl (by kernel_rfl) (by kernel_rfl) (by kernel_rfl) (fun _ _ _ h => h) (by rfl) hS ?_ ?_; rotate_left; (focus (intro w hSw; (try dsimp only at hSw); (have f1 := F1 w hSw; have f2 := F2 w hSw; have f3 := hlI; have f4 := h1I; have f5 := HW.out; have f6 := HT.out; have f7 := hkI0; have f8 := HNE.out); go_simp; first | done | with_reducible rfl)); simp only [Act.put, List.setIfInBounds_toArray, List.set_cons_zero, List.set_cons_succ])
          (refine mv_val 8 (v := ?_) rfl (by kernel_rfl) (by kernel_rfl) (by kernel_rfl) (fun _ _ _ h => h) (by rfl) hS ?_ ?_; rotate_left; (focus (intro w hSw; (try dsimp only at hSw); (have f1 := F1 w hSw; have f2 := F2 w hSw; have f3 := hlI; have f4 := h1I; have f5 := HW.out; have f6 := HT.out; have f7 := hkI0; have f8 := HNE.out); go_simp; first | done | with_reducible rfl)); simp only [Act.put, List.setIfInBounds_toArray, List.set_cons_zero, List.set_cons_succ])
          (refine mv_val 9 (v := ?_) rfl (by kernel_rfl) (by kernel_rfl) (by kernel_rfl) (fun _ _ _ h => h) (by rfl) hS ?_ ?_; rotate_left; (focus (intro w hSw; (try dsimp only at hSw); (have f1 := F1 w hSw; have f2 := F2 w hSw; have f3 := hlI; have f4 := h1I; have f5 := HW.out; have f6 := HT.out; have f7 := hkI0; have f8 := HNE.out); go_simp; first | done | with_reducible rfl)); simp only [Act.put, List.setIfInBounds_toArray, List.set_cons_zero, List.set_cons_succ])
          (refine mv_val 10 (v := ?_) rfl (by kernel_rfl) (by kernel_rfl) (by kernel_rfl) (fun _ _ _ h => h) (by rfl) hS ?_ ?_; rotate_left; (focus (intro w hSw; (try dsimp only at hSw); (have f1 := F1 w hSw; have f2 := F2 w hSw; have f3 := hlI; have f4 := h1I; have f5 := HW.out; have f6 := HT.out; have f7 := hkI0; have f8 := HNE.out); go_simp; first | done | with_reducible rfl)); simp only [Act.put, List.setIfInBounds_toArray, List.set_cons_zero, List.set_cons_succ])
          (refine mv_val 11 (v := ?_) rfl (by kernel_rfl) (by kernel_rfl) (by kernel_rfl) (fun _ _ _ h => h) (by rfl) hS ?_ ?_; rotate_left; (focus (intro w hSw; (try dsimp only at hSw); (have f1 := F1 w hSw; have f2 := F2 w hSw; have f3 := hlI; have f4 := h1I; have f5 := HW.out; have f6 := HT.out; have f7 := hkI0; have f8 := HNE.out); go_simp; first | done | with_reducible rfl)); simp only [Act.put, List.setIfInBounds_toArray, List.set_cons_zero, List.set_cons_succ])
          (refine mv_val 12 (v := ?_) rfl (by kernel_rfl) (by kernel_rfl) (by kernel_rfl) (fun _ _ _ h => h) (by rfl) hS ?_ ?_; rotate_left; (focus (intro w hSw; (try dsimp only at hSw); (have f1 := F1 w hSw; have f2 := F2 w hSw; have f3 := hlI; have f4 := h1I; have f5 := HW.out; have f6 := HT.out; have f7 := hkI0; have f8 := HNE.out); go_simp; first | done | with_reducible rfl)); simp only [Act.put, List.setIfInBounds_toArray, List.set_cons_zero, List.set_cons_succ])
          (refine mv_val 13 (v := ?_) rfl (by kernel_rfl) (by kernel_rfl) (by kernel_rfl) (fun _ _ _ h => h) (by rfl) hS ?_ ?_; rotate_left; (focus (intro w hSw; (try dsimp only at hSw); (have f1 := F1 w hSw; have f2 := F2 w hSw; have f3 := hlI; have f4 := h1I; have f5 := HW.out; have f6 := HT.out; have f7 := hkI0; have f8 := HNE.out); go_simp; first | done | with_reducible rfl)); simp only [Act.put, List.setIfInBounds_toArray, List.set_cons_zero, List.set_cons_succ])
          (refine mv_val 14 (v := ?_) rfl (by kernel_rfl) (by kernel_rfl) (by kernel_rfl) (fun _ _ _ h => h) (by rfl) hS ?_ ?_; rotate_left; (focus (intro w hSw; (try dsimp only at hSw); (have f1 := F1 w hSw; have f2 := F2 w hSw; have f3 := hlI; have f4 := h1I; have f5 := HW.out; have f6 := HT.out; have f7 := hkI0; have f8 := HNE.out); go_simp; first | done | with_reducible rfl)); simp only [Act.put, List.setIfInBounds_toArray, List.set_cons_zero, List.set_cons_succ])
          (refine mv_val 15 (v := ?_) rfl (by kernel_rfl) (by kernel_rfl) (by kernel_rfl) (fun _ _ _ h => h) (by rfl) hS ?_ ?_; rotate_left; (focus (intro w hSw; (try dsimp only at hSw); (have f1 := F1 w hSw; have f2 := F2 w hSw; have f3 := hlI; have f4 := h1I; have f5 := HW.out; have f6 := HT.out; have f7 := hkI0; have f8 := HNE.out); go_simp; first | done | with_reducible rfl)); simp only [Act.put, List.setIfInBounds_toArray, List.set_cons_zero, List.set_cons_succ])
          (refine mv_val 16 (v := ?_) rfl (by kernel_rfl) (by kernel_rfl) (by kernel_rfl) (fun _ _ _ h => h) (by rfl) hS ?_ ?_; rotate_left; (focus (intro w hSw; (try dsimp only at hSw); (have f1 := F1 w hSw; have f2 := F2 w hSw; have f3 := hlI; have f4 := h1I; have f5 := HW.out; have f6 := HT.out; have f7 := hkI0; have f8 := HNE.out); go_simp; first | done | with_reducible rfl)); simp only [Act.put, List.setIfInBounds_toArray, List.set_cons_zero, List.set_cons_succ])
          refine wpAnyH_done (by kernel_rfl) ?_ _
          go_wp2_with fail
          refine (HP1.out _).mono ?_; rintro e w2 ⟨A5, c5, rfl, hown5, hb5⟩
          have hown' := own_bel (hown.drew) hb5
          have hn2 : Below w1.heap.size w1 w2 := hS.trans (hb5.mono hS.size)
          go_wp2_with (at_builtin; refine wpList_app El_u8 rfl _ _ rfl hown' rfl rfl (rd_own hown5) (by simp) (cells_one _) (by unfold maxLen; omega) (by omega) hn2.size ?_; intro v6 w3 hown6 hg3 _; have hn3 : Below w1.heap.size w1 w3 := hn2.trans (own_below hown' hg3 hn2.size); obtain ⟨A6, c6, rfl, hc6⟩ := own_form hown6; have hck3 := F1 w3 hn3; have hub := HUB.out)
          refine (HZ.out _).mono ?_; rintro e w3' ⟨rfl, rfl⟩
          clear hub
          go_wp2_with fail
          refine (HP2.out _).mono ?_; rintro e w4 ⟨A7, c7, rfl, hown7, hb7⟩
          have hown'' := own_bel hown6 hb7
          have hn4 : Below w1.heap.size w1 w4 := hn3.trans (hb7.mono hn3.size)
          go_wp2_with (at_builtin; refine wpList_app El_u8 rfl _ _ rfl hown'' rfl rfl (rd_own hown7) (by simp) (cells_one _) (by unfold maxLen; omega) (by omega) hn4.size ?_; intro v8 w5 hown8 hg5 _)
          have hn5 : Below w1.heap.size w1 w5 := hn4.trans (own_below hown'' hg5 hn4.size)
          go_roundw
          case rel =>
            have hln : bs.length + e1.length + e2.length = (bs ++ (e1 ++ e2)).length := by simp only [List.length_append]; omega
            refine ⟨k + 1, 0, 0, pre ++ [(m + 1, x)], bs ++ (e1 ++ e2), by omega, by omega, rfl, by go_num, HR3.out, by simp, by rw [List.flatMap_append, ← HBS.out]; simp [HE.out], by rw [← hln]; omega, ?_, hn5⟩
            rw [← hln]
            simpa [cells] using hown8
          case measure => simp [intOf]; omega
        · have h1I : ¬ (k : Int) + 1 < (N : Int) := by omega
          have hd : decide ((k : Int) + 1 < (N : Int)) = false := by simpa using h1I
          have HD := Lib.hid hd
          clear hcell hck h1I hd
          go_wp2_with fail
          refine ah_start 17 (fun w' => Below w1.heap.size w1 w') rfl (by kernel_rfl) hnx.drew ?_
          intro hS
          (refine mv_val 0 (v := ?_) rfl (by kernel_rfl) (by kernel_rfl) (by kernel_rfl) (fun _ _ _ h => h) (by rfl) hS ?_ ?_; rotate_left; (focus (intro w hSw; (try dsimp only at hSw); (have f1 := F1 w hSw; have f3 := hlI; have f5 := HW.out; have f6 := HT.out; have f7 := hkI0; have f8 := HD.out); go_simp; first | done | with_reducible rfl)); simp only [Act.put, List.setIfInBounds_toArray, List.set_cons_zero, List.set_cons_succ])
          (refine mv_val 1 (v := ?_) rfl (by kernel_rfl) (by kernel_rfl) (by kernel_rfl) (fun _ _ _ h => h) (by rfl) hS ?_ ?_; rotate_left; (focus (intro w hSw; (try dsimp only at hSw); (have f1 := F1 w hSw; have f3 := hlI; have f5 := HW.out; have f6 := HT.out; have f7 := hkI0; have f8 := HD.out); go_simp; first | done | with_reducible rfl)); simp only [Act.put, List.setIfInBounds_toArray, List.set_cons_zero, List.set_cons_succ])
          (refine mv_val 2 (v := ?_) rfl (by kernel_rfl) (by kernel_rfl) (by kernel_rfl) (fun _ _ _ h => h) (by rfl) hS ?_ ?_; rotate_left; (focus (intro w hSw; (try dsimp only at hSw); (have f1 := F1 w hSw; have f3 := hlI; have f5 := HW.out; have f6 := HT.out; have f7 := hkI0; have f8 := HD.out); go_simp; first | done | with_reducible rfl)); simp only [Act.put, List.setIfInBounds_toArray, List.set_cons_zero, List.set_cons_succ])
          (refine mv_val 3 (v := ?_) rfl (by kernel_rfl) (by kernel_rfl) (by kernel_rfl) (fun _ _ _ h => h) (by rfl) hS ?_ ?_; rotate_left; (focus (intro w hSw; (try dsimp only at hSw); (have f1 := F1 w hSw; have f3 := hlI; have f5 := HW.out; have f6 := HT.out; have f7 := hkI0; have f8 := HD.out); go_simp; first | done | with_reducible rfl)); simp only [Act.put, List.setIfInBounds_toArray, List.set_cons_zero, List.set_cons_succ])
          (refine mv_val 4 (v := ?_) rfl (by kernel_rfl) (by kernel_rfl) (by kernel_rfl) (fun _ _ _ h => h) (by rfl) hS ?_ ?_; rotate_left; (focus (intro w hSw; (try dsimp only at hSw); (have f1 := F1 w hSw; have f3 := hlI; have f5 := HW.out; have f6 := HT.out; have f7 := hkI0; have f8 := HD.out); go_simp; first | done | with_reducible rfl)); simp only [Act.put, List.setIfInBounds_toArray, List.set_cons_zero, List.set_cons_succ])
          (refine mv_val 5 (v := ?_) rfl (by kernel_rfl) (by kernel_rfl) (by kernel_rfl) (fun _ _ _ h => h) (by rfl) hS ?_ ?_; rotate_left; (focus (intro w hSw; (try dsimp only at hSw); (have f1 := F1 w hSw; have f3 := hlI; have f5 := HW.out; have f6 := HT.out; have f7 := hkI0; have f8 := HD.out); go_simp; first | done | with_reducible rfl)); simp only [Act.put, List.setIfInBounds_toArray, List.set_cons_zero, List.set_cons_succ])
          (refine mv_skip 6 rfl (by kernel_rfl) (by kernel_rfl) (by kernel_rfl) (fun _ _ _ h => h) (by rfl) hS ?_; simp only [Act.put, List.setIfInBounds_toArray, List.set_cons_zero, List.set_cons_succ])
          (refine mv_skip 7 rfl (by kernel_rfl) (by kernel_rfl) (by kernel_rfl) (fun _ _ _ h => h) (by rfl) hS ?_; simp only [Act.put, List.setIfInBounds_toArray, List.set_cons_zero, List.set_cons_succ])
          (refine mv_skip 8 rfl (by kernel_rfl) (by kernel_rfl) (by kernel_rfl) (fun _ _ _ h => h) (by rfl) hS ?_; simp only [Act.put, List.setIfInBounds_toArray, List.set_cons_zero, List.set_cons_succ])
          (refine mv_skip 9 rfl (by kernel_rfl) (by kernel_rfl) (by kernel_rfl) (fun _ _ _ h => h) (by rfl) hS ?_; simp only [Act.put, List.setIfInBounds_toArray, List.set_cons_zero, List.set_cons_succ])
          (refine mv_skip 10 rfl (by kernel_rfl) (by kernel_rfl) (by kernel_rfl) (fun _ _ _ h => h) (by rfl) hS ?_; simp only [Act.put, List.setIfInBounds_toArray, List.set_cons_zero, List.set_cons_succ])
          (refine mv_skip 11 rfl (by kernel_rfl) (by kernel_rfl) (by kernel_rfl) (fun _ _ _ h => h) (by rfl) hS ?_; simp only [Act.put, List.setIfInBounds_toArray, List.set_cons_zero, List.set_cons_succ])
          (refine mv_skip 12 rfl (by kernel_rfl) (by kernel_rfl) (by kernel_rfl) (fun _ _ _ h => h) (by rfl) hS ?_; simp only [Act.put, List.setIfInBounds_toArray, List.set_cons_zero, List.set_cons_succ])
          (refine mv_skip 13 rfl (by kernel_rfl) (by kernel_rfl) (by kernel_rfl) (fun _ _ _ h => h) (by rfl) hS ?_; simp only [Act.put, List.setIfInBounds_toArray, List.set_cons_zero, List.set_cons_succ])
          (refine mv_skip 14 rfl (by kernel_rfl) (by kernel_rfl) (by kernel_rfl) (fun _ _ _ h => h) (by rfl) hS ?_; simp only [Act.put, List.setIfInBounds_toArray, List.set_cons_zero, List.set_cons_succ])
          (refine mv_skip 15 rfl (by kernel_rfl) (by kernel_rfl) (by kernel_rfl) (fun _ _ _ h => h) (by rfl) hS ?_; simp only [Act.put, List.setIfInBounds_toArray, List.set_cons_zero, List.set_cons_succ])
          (refine mv_val 16 (v := ?_) rfl (by kernel_rfl) (by kernel_rfl) (by kernel_rfl) (fun _ _ _ h => h) (by rfl) hS ?_ ?_; rotate_left; (focus (intro w hSw; (try dsimp only at hSw); (have f1 := F1 w hSw; have f3 := hlI; have f5 := HW.out; have f6 := HT.out; have f7 := hkI0; have f8 := HD.out); go_simp; first | done | with_reducible rfl)); simp only [Act.put, List.setIfInBounds_toArray, List.set_cons_zero, List.set_cons_succ])
          refine wpAnyH_done (by kernel_rfl) ?_ _
          go_wp2_with fail
          refine (HP1.out _).mono ?_; rintro e w2 ⟨A5, c5, rfl, hown5, hb5⟩
          have hown' := own_bel (hown.drew) hb5
          have hn2 : Below w1.heap.size w1 w2 := hS.trans (hb5.mono hS.size)
          go_wp2_with (at_builtin; refine wpList_app El_u8 rfl _ _ rfl hown' rfl rfl (rd_own hown5) (by simp) (cells_one _) (by unfold maxLen; omega) (by omega) hn2.size ?_; intro v6 w3 hown6 hg3 _; have hn3 : Below w1.heap.size w1 w3 := hn2.trans (own_below hown' hg3 hn2.size); obtain ⟨A6, c6, rfl, hc6⟩ := own_form hown6; have hck3 := F1 w3 hn3; have hub := HUB.out)
          refine (HZ.out _).mono ?_; rintro e w3' ⟨rfl, rfl⟩
          clear hub
          go_wp2_with fail
          refine (HP2.out _).mono ?_; rintro e w4 ⟨A7, c7, rfl, hown7, hb7⟩
          have hown'' := own_bel hown6 hb7
          have hn4 : Below w1.heap.size w1 w4 := hn3.trans (hb7.mono hn3.size)
          go_wp2_with (at_builtin; refine wpList_app El_u8 rfl _ _ rfl hown'' rfl rfl (rd_own hown7) (by simp) (cells_one _) (by unfold maxLen; omega) (by omega) hn4.size ?_; intro v8 w5 hown8 hg5 _)
          have hn5 : Below w1.heap.size w1 w5 := hn4.trans (own_below hown'' hg5 hn4.size)
          go_roundw
          case rel =>
            have hln : bs.length + e1.length + e2.length = (bs ++ (e1 ++ e2)).length := by simp only [List.length_append]; omega
            refine ⟨k + 1, 0, 0, pre ++ [(m + 1, x)], bs ++ (e1 ++ e2), by omega, by omega, rfl, by go_num, HR3.out, by simp, by rw [List.flatMap_append, ← HBS.out]; simp [HE.out], by rw [← hln]; omega, ?_, hn5⟩
            rw [← hln]
            simpa [cells] using hown8
          case measure => simp [intOf]; omega
    · have hkk : k = N := by omega
      have he : rl 0 0 C = pre ++ rl m ch [] := by
        rw [HR.out, List.drop_eq_nil_of_le (by rw [← HN.out]; omega)]
      have hm0 : m = 0 := by
        rcases Nat.eq_zero_or_pos m with h0 | h0
        · exact h0
        · have := HCH.out (by omega)
          rw [List.getElem?_eq_none (by rw [← HN.out]; omega)] at this
          cases this
      subst hm0
      have hfin : bs = (rl 0 0 C).flatMap enc1 := by rw [he, HBS.out]; simp [rl]
      have HF := Lib.hid hfin
      subst hkk
      clear he hfin HR HCH HBS
      go_wp2_with fail
      go_ret
      rw [← HF.out]
      exact retB_of (World.ownsRow.mono hown hz1) (hb1.trans (hnx.mono hz1))
end Go.Proofs.Ythkpgjcnnfdibaa.In

/-! The walk of the reference's Get (layer 5): it answers iget. For rows of bytes of at most 2^32. -/
namespace Go.Proofs.Ythkpgjcnnfdibaa.In
open Go.RowKit
set_option linter.unusedVariables false
set_option linter.unusedSimpArgs false

set_option maxHeartbeats 4000000 in
set_option maxRecDepth 100000 in
theorem rGet_ints (B : Nat) (A : Option Addr) (c : Nat) (l : List UInt8) (n : Int) (w : World) (h : Rd w B A (cells l)) (hB : B ≤ w.heap.size) (hc : l.length ≤ c) (hl : l.length ≤ 4294967296) (hn : i64 n) :
    Calls Try.prog 100 #[.slice A l.length c, .int .i64 n] w (RetI w (iget l n)) := by
  unfold i64 at hn
  obtain ⟨hn1, hn2⟩ := hn
  by_cases hneg : n < 0
  · have he : iget l n = ([], 1) := by unfold iget; rw [if_pos (.inl hneg)]
    have HE := Lib.hid he
    clear he
    go_enter Try.func100, Try.ntmps100
    go_wp2_with fail
    go_ret2
    exact retI_err HE.out (Below.refl _ _)
  by_cases hbig : 65536 < n
  · have he : iget l n = ([], 1) := by unfold iget; rw [if_pos (.inr hbig)]
    have HE := Lib.hid he
    clear he
    have hneg' : 0 ≤ n := by omega
    clear hneg
    go_enter Try.func100, Try.ntmps100
    go_wp2_with fail
    go_ret2
    exact retI_err HE.out (Below.refl _ _)
  obtain ⟨N, rfl⟩ := Int.eq_ofNat_of_zero_le (show 0 ≤ n by omega)
  have hN : N ≤ 65536 := by omega
  have hd1 : decide ((N : Int) < 0) = false := by simp
  have hd2 : decide (65536 < (N : Int)) = false := by simp; omega
  clear hneg hbig hn1 hn2
  go_enter Try.func100, Try.ntmps100
  go_wp2_with fail
  go_loopw [6, 7] (fun v6 v7 wr => ∃ (cs : List Int) (p : Nat), p ≤ l.length ∧ v7 = .int .i64 p ∧ cs.length ≤ N ∧
      wr.ownsRow w.heap.size 55 1 v6 cs.length (ucells cs) ∧ (∀ x ∈ cs, i64 x) ∧ dget N [] l = dget N cs (l.drop p) ∧ Below w.heap.size w wr)
    (fun v6 _ _ => N - lenOf v6)
  case atStart => exact ⟨[], 0, Nat.zero_le _, rfl, Nat.zero_le _, World.ownsRow_nil _ _ _ _, by simp, rfl, Below.refl _ _⟩
  case round =>
    obtain ⟨cs, p, hp, rfl, hcs, hown, hci, hget, hnx⟩ := hrel
    have hrd : Rd wr B A (cells l) := h.below (hnx.mono hB)
    have hgs := dget_eq N cs (l.drop p)
    obtain ⟨cl, hcl⟩ : ∃ x, x = cs.length := ⟨_, rfl⟩
    rw [← hcl] at hown hcs hgs
    have HCL := Lib.hid hcl
    clear hcl
    obtain ⟨A6, c6, rfl, hc6⟩ := own_form hown
    have HG := Lib.hid hget
    have HI := Lib.hid hci
    have HD := Lib.hid hgs
    clear hget hci hgs
    by_cases hlt : cl < N
    · have HD1 : Hid (dget N cs (l.drop p) = if l.drop p = [] then ([], 20)
          else if (vget (l.drop p)).2.2 ≠ 0 then ([], (vget (l.drop p)).2.2)
          else if (vget (l.drop p)).1 = 0 ∨ N - cl < (vget (l.drop p)).1 then ([], 21)
          else if (vget ((l.drop p).drop (vget (l.drop p)).2.1)).2.2 ≠ 0 then ([], (vget ((l.drop p).drop (vget (l.drop p)).2.1)).2.2)
          else if cs ≠ [] ∧ cs.getLast? = some (zag (vget ((l.drop p).drop (vget (l.drop p)).2.1)).1) then ([], 21)
          else dget N (cs ++ List.replicate (vget (l.drop p)).1 (zag (vget ((l.drop p).drop (vget (l.drop p)).2.1)).1)) ((l.drop p).drop ((vget (l.drop p)).2.1 + (vget ((l.drop p).drop (vget (l.drop p)).2.1)).2.1))) := by
        have := HD.out; rw [if_pos hlt] at this; exact this
      clear HD
      by_cases hpl : p = l.length
      · have hr : l.drop p = [] := by rw [hpl, List.drop_length]
        have he : iget l N = ([], 20) := by rw [iget_of hN (HG.out.trans (HD1.out.trans (if_pos hr)))]; rfl
        have HE := Lib.hid he
        have hpI : ((p : Int) == (l.length : Int)) = true := by simp; omega
        clear he HD1 HG hr hpl
        go_wp2_with fail
        go_ret2
        exact retI_err HE.out hnx
      · have hrne : l.drop p ≠ [] := by
          intro e
          have := congrArg List.length e
          rw [List.length_drop, List.length_nil] at this; omega
        have hpI : ((p : Int) == (l.length : Int)) = false := by simp; omega
        go_wp2_with (refine wpList_from 35 33 34 l p rfl rfl rfl hc rfl hp hrd ?_; intro A1 k1 r HR hrd1 hrc)
        have hrl : r.length ≤ l.length := by rw [HR.out, List.length_drop]; omega
        rw [← HR.out] at HD1 hrne HG
        have G1 := rGet_any B A1 k1 r wr hrd1 (by omega)
        have gb := vget_val r
        have HD2 : Hid (dget N cs r = if (vget r).2.2 ≠ 0 then ([], (vget r).2.2)
            else if (vget r).1 = 0 ∨ N - cl < (vget r).1 then ([], 21)
            else if (vget (r.drop (vget r).2.1)).2.2 ≠ 0 then ([], (vget (r.drop (vget r).2.1)).2.2)
            else if cs ≠ [] ∧ cs.getLast? = some (zag (vget (r.drop (vget r).2.1)).1) then ([], 21)
            else dget N (cs ++ List.replicate (vget r).1 (zag (vget (r.drop (vget r).2.1)).1)) (r.drop ((vget r).2.1 + (vget (r.drop (vget r).2.1)).2.1))) := by
          have := HD1.out; rw [if_neg hrne] at this; exact this
        clear HD1 hrne hpl
        unfold tri at G1
        generalize vget r = g1 at *
        obtain ⟨mm, u, er⟩ := g1
        dsimp only at HD2 G1 gb
        obtain ⟨gb1, gb2, gb3⟩ := gb
        have K1 := Lib.hid G1
        clear G1
        by_cases her : er = 0
        case neg =>
          have he : iget l N = ([], er) := by rw [iget_of hN (HG.out.trans (HD2.out.trans (if_pos her)))]; rfl
          have HE := Lib.hid he
          have herI : ((er : Int) != 0) = true := by simpa using her
          clear he HD2 HG her
          refine K1.out.mono ?_; rintro e w1 ⟨rfl, rfl⟩
          go_wp2_with fail
          go_ret2
          exact retI_err HE.out hnx
        subst her
        by_cases hm0 : mm = 0
        · have he : iget l N = ([], 21) := by rw [iget_of hN (HG.out.trans (HD2.out.trans ((if_neg (by simp)).trans (if_pos (.inl hm0)))))]; rfl
          have HE := Lib.hid he
          subst hm0
          clear he HD2 HG
          refine K1.out.mono ?_; rintro e w1 ⟨rfl, rfl⟩
          go_wp2_with fail
          go_ret2
          exact retI_err HE.out hnx
        have hm0I : ((mm : Int) == 0) = false := by simp; omega
        by_cases hmb : N - cl < mm
        · have he : iget l N = ([], 21) := by rw [iget_of hN (HG.out.trans (HD2.out.trans ((if_neg (by simp)).trans (if_pos (.inr hmb)))))]; rfl
          have HE := Lib.hid he
          have hmbI : (N : Int) - (cl : Int) < (mm : Int) := by omega
          clear he HD2 HG hm0
          refine K1.out.mono ?_; rintro e w1 ⟨rfl, rfl⟩
          go_wp2_with fail
          go_ret2
          exact retI_err HE.out hnx
        have hmbI : (mm : Int) ≤ (N : Int) - (cl : Int) := by omega
        have HD3 : Hid (dget N cs r = if (vget (r.drop u)).2.2 ≠ 0 then ([], (vget (r.drop u)).2.2)
            else if cs ≠ [] ∧ cs.getLast? = some (zag (vget (r.drop u)).1) then ([], 21)
            else dget N (cs ++ List.replicate mm (zag (vget (r.drop u)).1)) (r.drop (u + (vget (r.drop u)).2.1))) := by
          have := HD2.out; rw [if_neg (by simp), if_neg (by omega)] at this; exact this
        have hpu : p + u ≤ l.length := by
          have h1 := congrArg List.length HR.out
          rw [List.length_drop] at h1; omega
        have HQ : Hid (((p : Int) + (u : Int)) = ((p + u : Nat) : Int)) := Lib.hid (by omega)
        clear HD2
        refine K1.out.mono ?_; rintro e w1 ⟨rfl, rfl⟩
        go_wp2_with (refine wpList_from 60 58 59 l (p + u) rfl rfl rfl hc HQ.out hpu hrd ?_; intro A2 k2 r2 HR2 hrd2 hrc2)
        have hr2 : r2 = r.drop u := by rw [HR2.out, HR.out, List.drop_drop]
        have hr2l : r2.length ≤ l.length := by rw [hr2, List.length_drop]; omega
        rw [← hr2] at HD3
        have hdd : ∀ q, r.drop (u + q) = l.drop (p + u + q) := fun q => by rw [HR.out, List.drop_drop, Nat.add_assoc]
        rw [hdd] at HD3
        clear hdd hr2
        have G2 := rGet_any B A2 k2 r2 wr hrd2 (by omega)
        have gb := vget_val r2
        have hq : (vget r2).2.1 ≤ r2.length := gb.2.2
        unfold tri at G2
        generalize vget r2 = g2 at *
        obtain ⟨z, q, er⟩ := g2
        dsimp only at HD3 G2 gb hq
        obtain ⟨gz, gq, _⟩ := gb
        have K2 := Lib.hid G2
        clear G2
        by_cases her : er = 0
        case neg =>
          have he : iget l N = ([], er) := by rw [iget_of hN (HG.out.trans (HD3.out.trans (if_pos her)))]; rfl
          have HE := Lib.hid he
          have herI : ((er : Int) != 0) = true := by simpa using her
          clear he HD3 HG her
          refine K2.out.mono ?_; rintro e w1 ⟨rfl, rfl⟩
          go_wp2_with fail
          go_ret2
          exact retI_err HE.out hnx
        subst her
        have Z1 := fun w => rZag_any z (by omega) (by omega) w
        have HD4 : Hid (dget N cs r = if cs ≠ [] ∧ cs.getLast? = some (zag z) then ([], 21)
            else dget N (cs ++ List.replicate mm (zag z)) (l.drop (p + u + q))) := by
          have := HD3.out; rw [if_neg (by simp)] at this; exact this
        have hzi : i64 (zag z) := zag_bd _ (by omega) (by omega)
        obtain ⟨zz, hzz⟩ : ∃ x, x = zag z := ⟨_, rfl⟩
        rw [← hzz] at Z1 HD4 hzi
        have K3 := Lib.hid Z1
        have HZI := Lib.hid hzi
        clear Z1 HD3 hzz hzi
        have hwz : IntKind.u64.wrap zz = toU zz := wrapU zz
        have huq : p + u + q ≤ l.length := by
          have h1 := congrArg List.length HR2.out
          rw [List.length_drop] at h1; omega
        have hlastc : cl = 0 ∨ ∃ d y g o, cl = d + 1 ∧ cs ≠ [] ∧ cs.getLast? = some y ∧ A6 = some ⟨g, o, none⟩ ∧ wr.cell? ⟨g, o + d, none⟩ = some (.int .u64 (toU y)) := by
          rcases Nat.eq_zero_or_pos cl with h0 | h0
          · exact .inl h0
          · right
            have hl0 : 0 < cs.length := by rw [← HCL.out]; exact h0
            have hne : cs ≠ [] := List.length_pos_iff.1 hl0
            obtain ⟨g, o, hA, hg, hcell⟩ := (rd_own hown).at (k := cl - 1) (by simp [← HCL.out]; omega)
            refine ⟨cl - 1, cs.getLast hne, g, o, by omega, hne, List.getLast?_eq_some_getLast hne, hA, hcell _ _ ?_⟩
            rw [List.getElem?_map, HCL.out, ← List.getLast?_eq_getElem?, List.getLast?_eq_some_getLast hne]; rfl
        obtain ⟨cn, hcn⟩ : ∃ x, x = cl := ⟨_, rfl⟩
        have hcm : cn + mm ≤ N := by omega
        have HCN := Lib.hid hcn
        clear hcn
        by_cases hx : cs ≠ [] ∧ cs.getLast? = some zz
        · have he : iget l N = ([], 21) := by rw [iget_of hN (HG.out.trans (HD4.out.trans (if_pos hx)))]; rfl
          have HE := Lib.hid he
          rcases hlastc with h0 | ⟨d, y, g, o, rfl, hne, hy, rfl, hcell⟩
          · exfalso
            have := HCL.out
            rw [h0] at this
            exact hx.1 (List.eq_nil_of_length_eq_zero this.symm)
          · have hyz : y = zz := by rw [hx.2] at hy; exact (Option.some.inj hy).symm
            subst hyz
            clear he hx hy hne HG HD4 HR HR2
            refine K2.out.mono ?_; rintro e w1 ⟨rfl, rfl⟩
            go_wp2_with (go_at_call 99; refine (K3.out _).mono ?_; rintro e w1 ⟨rfl, rfl⟩)
            go_ret2
            exact retI_err HE.out hnx
        · have HD5 := Lib.hid (HG.out.trans (HD4.out.trans (if_neg hx)))
          rcases hlastc with h0 | ⟨d, y, g, o, rfl, hne, hy, rfl, hcell⟩
          · subst h0
            clear hx HG HD4 HR HR2
            refine K2.out.mono ?_; rintro e w1 ⟨rfl, rfl⟩
            go_wp2_with (go_at_call 99; refine (K3.out _).mono ?_; rintro e w1 ⟨rfl, rfl⟩)
            go_loopw [6, 13] (fun v6 v13 ws => ∃ (k : Nat), k ≤ mm ∧ v13 = .int .u64 k ∧ ws.ownsRow w.heap.size 55 1 v6 (cn + k) (ucells (cs ++ List.replicate k zz)) ∧ Below w.heap.size w ws)
              (fun _ v13 _ => mm - (intOf v13).toNat)
            case atStart => exact ⟨0, Nat.zero_le _, rfl, by rw [HCN.out]; simpa using hown, hnx⟩
            case round =>
              obtain ⟨k, hk, rfl, hown', hnx'⟩ := hrel
              obtain ⟨A7, c7, rfl, hc7⟩ := own_form hown'
              by_cases hkm : k < mm
              · go_wp2_with (at_builtin; refine wpList_app El_u64 rfl _ _ rfl (hown'.alloc _) rfl rfl (by exact rd_one _ _ _ _ _ rfl (Nat.lt_add_one _)) rfl one_int (by unfold maxLen; omega) (by omega) (by have := hnx'.size; simp; omega) ?_; intro v2 w2 hown2 hg2 _)
                have hb2 : Below w.heap.size w w2 := (hnx'.alloc hnx'.size _).trans (own_below (hown'.alloc _) hg2 (by have := hnx'.size; simp; omega))
                go_roundw
                case rel =>
                  refine ⟨k + 1, by omega, by go_num, ?_, hb2⟩
                  rw [rep_succ, ucells_snoc, ← Nat.add_assoc]
                  simpa using hown2
                case measure => simp [intOf]; omega
              · have hkk : k = mm := by omega
                subst hkk
                go_wp2_with fail
                go_roundw
                case rel =>
                  have hln : (cs ++ List.replicate k zz).length = cn + k := by rw [List.length_append, List.length_replicate, ← HCL.out, HCN.out]
                  refine ⟨cs ++ List.replicate k zz, p + u + q, huq, by go_num, by rw [hln]; omega, by rw [hln]; exact hown', fun x hx => ?_, HD5.out, hnx'⟩
                  rcases List.mem_append.1 hx with h1 | h1
                  · exact HI.out x h1
                  · rw [(List.mem_replicate.1 h1).2]; exact HZI.out
                case measure =>
                  have h1 := HCN.out
                  simp [lenOf]; omega
          · have hyz : (toU y == toU zz) = false := by
              simp only [beq_eq_false_iff_ne, ne_eq]
              intro e
              have := u64_inj (HI.out y (List.mem_of_getLast? hy)) HZI.out e
              exact hx ⟨hne, by rw [hy, this]⟩
            clear hx hy hne HG HD4 HR HR2
            refine K2.out.mono ?_; rintro e w1 ⟨rfl, rfl⟩
            go_wp2_with (go_at_call 99; refine (K3.out _).mono ?_; rintro e w1 ⟨rfl, rfl⟩)
            go_loopw [6, 13] (fun v6 v13 ws => ∃ (k : Nat), k ≤ mm ∧ v13 = .int .u64 k ∧ ws.ownsRow w.heap.size 55 1 v6 (cn + k) (ucells (cs ++ List.replicate k zz)) ∧ Below w.heap.size w ws)
              (fun _ v13 _ => mm - (intOf v13).toNat)
            case atStart => exact ⟨0, Nat.zero_le _, rfl, by rw [HCN.out]; simpa using hown, hnx⟩
            case round =>
              obtain ⟨k, hk, rfl, hown', hnx'⟩ := hrel
              obtain ⟨A7, c7, rfl, hc7⟩ := own_form hown'
              by_cases hkm : k < mm
              · go_wp2_with (at_builtin; refine wpList_app El_u64 rfl _ _ rfl (hown'.alloc _) rfl rfl (by exact rd_one _ _ _ _ _ rfl (Nat.lt_add_one _)) rfl one_int (by unfold maxLen; omega) (by omega) (by have := hnx'.size; simp; omega) ?_; intro v2 w2 hown2 hg2 _)
                have hb2 : Below w.heap.size w w2 := (hnx'.alloc hnx'.size _).trans (own_below (hown'.alloc _) hg2 (by have := hnx'.size; simp; omega))
                go_roundw
                case rel =>
                  refine ⟨k + 1, by omega, by go_num, ?_, hb2⟩
                  rw [rep_succ, ucells_snoc, ← Nat.add_assoc]
                  simpa using hown2
                case measure => simp [intOf]; omega
              · have hkk : k = mm := by omega
                subst hkk
                go_wp2_with fail
                go_roundw
                case rel =>
                  have hln : (cs ++ List.replicate k zz).length = cn + k := by rw [List.length_append, List.length_replicate, ← HCL.out, HCN.out]
                  refine ⟨cs ++ List.replicate k zz, p + u + q, huq, by go_num, by rw [hln]; omega, by rw [hln]; exact hown', fun x hx => ?_, HD5.out, hnx'⟩
                  rcases List.mem_append.1 hx with h1 | h1
                  · exact HI.out x h1
                  · rw [(List.mem_replicate.1 h1).2]; exact HZI.out
                case measure =>
                  have h1 := HCN.out
                  simp [lenOf]; omega
    · have hcl : cl = N := by omega
      have HD1 : Hid (dget N cs (l.drop p) = if l.drop p ≠ [] then ([], 21) else (cs, 0)) := by
        have := HD.out; rw [if_neg hlt] at this; exact this
      clear HD
      by_cases hpl : p = l.length
      case neg =>
        have hrne : l.drop p ≠ [] := by
          intro e
          have := congrArg List.length e
          rw [List.length_drop, List.length_nil] at this; omega
        have he : iget l N = ([], 21) := by rw [iget_of hN (HG.out.trans (HD1.out.trans (if_pos hrne)))]; rfl
        have HE := Lib.hid he
        have hpI : ((p : Int) != (l.length : Int)) = true := by simp; omega
        subst hcl
        clear he HD1 HG hrne hpl
        go_wp2_with fail
        go_ret2
        exact retI_err HE.out hnx
      have hr : l.drop p = [] := by rw [hpl, List.drop_length]
      have he : iget l N = (unchg 0 0 cs, 0) := by rw [iget_of hN (HG.out.trans (HD1.out.trans (if_neg (by simp [hr]))))]
      have HE := Lib.hid he
      have hpI : ((p : Int) != (l.length : Int)) = false := by simp; omega
      have hcsN : cs.length = N := by rw [← HCL.out, hcl]
      have HCN := Lib.hid hcsN
      have hrdc : Rd wr wr.heap.size A6 (ucells cs) := rd_own hown
      subst hcl
      clear he HD1 HG hr hpl hcsN
      go_wp2_with fail
      go_loopw [14, 15, 16, 17] (fun v14 v15 v16 v17 ws => ∃ k : Nat, k ≤ cl ∧ v17 = .int .i64 k ∧ ws.ownsRow wr.heap.size 2 1 v14 k (num (unchg 0 0 (cs.take k))) ∧
          v15 = .int .u64 (toU (lst 0 0 (cs.take k)).2) ∧ v16 = .int .u64 (toU (lst 0 0 (cs.take k)).1) ∧ Below wr.heap.size wr ws)
        (fun _ _ _ v17 _ => cl - (intOf v17).toNat)
      case atStart => exact ⟨0, by omega, rfl, World.ownsRow_nil _ _ _ _, rfl, rfl, Below.refl _ _⟩
      case round =>
        obtain ⟨k, hk, rfl, hown', hv15, hv16, hnx'⟩ := hrel
        subst hv15 hv16
        obtain ⟨A7, c7, rfl, hc7⟩ := own_form hown'
        by_cases hkm : k < cl
        · obtain ⟨g, o, rfl, hg, hcell⟩ := hrdc.at (k := k) (by simp [HCN.out]; exact hkm)
          obtain ⟨x, hx⟩ : ∃ x, cs[k]? = some x := ⟨_, List.getElem?_eq_getElem (by rw [HCN.out]; exact hkm)⟩
          have hck := (hnx'.cell (p := ⟨g, o + k, none⟩) hg).trans (hcell k (.int .u64 (toU x)) (by rw [List.getElem?_map, hx]; rfl))
          have hts : cs.take (k + 1) = cs.take k ++ [x] := by
            have h1 : k < cs.length := by rw [HCN.out]; exact hkm
            rw [List.getElem?_eq_getElem h1] at hx
            rw [take_snoc cs k h1, Option.some.inj hx]
          obtain ⟨a, ha⟩ : ∃ y, y = (lst 0 0 (cs.take k)).1 := ⟨_, rfl⟩
          obtain ⟨s, hs⟩ : ∃ y, y = (lst 0 0 (cs.take k)).2 := ⟨_, rfl⟩
          rw [← ha, ← hs]
          have e1 : IntKind.u64.wrap (toU s + toU x) = toU (wrap64 (s + x)) := by rw [wrapU]; exact (lst_u64 a s x).1.symm
          obtain ⟨s', hs'⟩ : ∃ y, y = wrap64 (s + x) := ⟨_, rfl⟩
          have e2 : IntKind.u64.wrap (toU a + toU s') = toU (wrap64 (a + s')) := by rw [wrapU, hs', (lst_u64 a s x).1]; exact (lst_u64 a s x).2.symm
          obtain ⟨a', ha'⟩ : ∃ y, y = wrap64 (a + s') := ⟨_, rfl⟩
          have e3 : wrap64 (toU a') = a' := u64_back (by rw [ha']; exact i64_wrap _)
          rw [← hs'] at e1
          rw [← ha'] at e2
          have hl2 : lst 0 0 (cs.take (k + 1)) = (a', s') := by rw [hts, lst_snoc, ← ha, ← hs, ha', hs']
          have hu2 : unchg 0 0 (cs.take (k + 1)) = unchg 0 0 (cs.take k) ++ [a'] := by rw [hts, unchg_snoc, ← ha, ← hs, ha', hs']
          have HL2 := Lib.hid hl2
          have HU2 := Lib.hid hu2
          clear hl2 hu2 hts hx ha hs hs' ha' hcell
          go_wp2_with (at_builtin; refine wpList_app El_i64 rfl _ _ rfl (hown'.alloc _) rfl rfl (by exact rd_one _ _ _ _ _ rfl (Nat.lt_add_one _)) rfl one_int (by unfold maxLen; omega) (by omega) (by have := hnx'.size; simp; omega) ?_; intro v2 w2 hown2 hg2 _)
          have hb2 : Below _ _ w2 := (hnx'.alloc hnx'.size _).trans (own_below (hown'.alloc _) hg2 (by have := hnx'.size; simp; omega))
          go_roundw
          case rel =>
            refine ⟨k + 1, by omega, by go_num, ?_, by rw [HL2.out], by rw [HL2.out], hb2⟩
            rw [HU2.out]
            simpa [num] using hown2
          case measure => simp [intOf]; omega
        · have hkk : k = cl := by omega
          subst hkk
          have htk : cs.take k = cs := by rw [← HCN.out, List.take_length]
          rw [htk] at hown'
          clear htk
          go_wp2_with fail
          go_ret2
          have hsz := hnx.size
          have hul : (unchg 0 0 cs).length = k := by rw [unchg_length, HCN.out]
          exact retI_ok HE.out (by rw [hul]; exact World.ownsRow.mono hown' hsz) (hnx.trans (hnx'.mono hsz))
end Go.Proofs.Ythkpgjcnnfdibaa.In

/- Plain: sets of times as the reference makes them: the line is cut at all ends, each piece is asked. No program in sight. -/
import Derived.Test.YtiohdacbnigpkaaSetP
namespace Go.Proofs.Ytiohdacbnigpkaa
set_option linter.unusedVariables false

/-- a number more, in order, each once -/
def putI : List Int → Int → List Int
  | [], n => [n]
  | x :: r, n => if x < n then x :: putI r n else if x = n then x :: r else n :: x :: r
abbrev ascI (l : List Int) : Prop := l.Pairwise (· < ·)
theorem putI_mem (n y : Int) : ∀ l : List Int, y ∈ putI l n ↔ y = n ∨ y ∈ l
  | [] => by simp [putI]
  | x :: r => by
    unfold putI
    split
    · rw [List.mem_cons, putI_mem n y r, List.mem_cons]
      constructor
      · rintro (h | h | h)
        · exact .inr (.inl h)
        · exact .inl h
        · exact .inr (.inr h)
      · rintro (h | h | h)
        · exact .inr (.inl h)
        · exact .inl h
        · exact .inr (.inr h)
    · split
      · rename_i _ h; subst h; simp
      · simp
theorem putI_asc (n : Int) : ∀ l : List Int, ascI l → ascI (putI l n)
  | [], _ => by simp [putI]
  | x :: r, h => by
    obtain ⟨h1, h2⟩ := List.pairwise_cons.1 h
    unfold putI
    split
    · rename_i hlt
      refine List.pairwise_cons.2 ⟨fun y hy => ?_, putI_asc n r h2⟩
      rcases (putI_mem n y r).1 hy with rfl | hy
      · exact hlt
      · exact h1 y hy
    · split
      · exact h
      · refine List.pairwise_cons.2 ⟨fun y hy => ?_, h⟩
        rcases List.mem_cons.1 hy with rfl | hy
        · omega
        · have := h1 y hy; omega
theorem putI_len (n : Int) : ∀ l : List Int, (putI l n).length ≤ l.length + 1
  | [] => by simp [putI]
  | x :: r => by
    unfold putI
    split
    · have := putI_len n r; simp; omega
    · split <;> simp
/-- what the walk finds at place k -/
theorem putI_at (n : Int) : ∀ (l : List Int) (k : Nat), k ≤ l.length → (∀ x ∈ l.take k, x < n) → (∀ x, l[k]? = some x → ¬ x < n) → putI l n = if l[k]? = some n then l else l.take k ++ n :: l.drop k
  | [], k, hk, _, _ => by
    have : k = 0 := by simpa using hk
    subst this; simp [putI]
  | x :: r, 0, _, _, h => by
    have h0 := h x rfl
    unfold putI
    rw [if_neg h0]
    simp only [List.getElem?_cons_zero, Option.some.injEq, List.take_zero, List.drop_zero, List.nil_append]
  | x :: r, k + 1, hk, h1, h2 => by
    have h0 : x < n := h1 x (by simp)
    have ih := putI_at n r k (by simpa using hk) (fun y hy => h1 y (by rw [List.take_succ_cons]; exact List.mem_cons_of_mem _ hy)) (fun y hy => h2 y (by rw [List.getElem?_cons_succ]; exact hy))
    unfold putI
    rw [if_pos h0, ih, List.getElem?_cons_succ]
    split <;> simp
def endStep (o : List Int) (s : S2) : List Int := if s.1 < s.2 then putI (putI o s.1) s.2 else o
def endsI (l : List S2) : List Int := l.foldl endStep []
theorem endsI_snoc {l : List S2} {k : Nat} {s : S2} (h : l[k]? = some s) : endsI (l.take (k + 1)) = endStep (endsI (l.take k)) s := by
  unfold endsI
  rw [List.take_add_one, h, List.foldl_append]; rfl
theorem endsF (l : List S2) : ∀ o : List Int, ascI o → ascI (l.foldl endStep o) ∧ (∀ y, y ∈ l.foldl endStep o ↔ y ∈ o ∨ ∃ s ∈ l, s.1 < s.2 ∧ (y = s.1 ∨ y = s.2)) ∧ (l.foldl endStep o).length ≤ o.length + 2 * l.length := by
  induction l with
  | nil => intro o ho; exact ⟨ho, fun y => by simp, by simp⟩
  | cons s l ih =>
    intro o ho
    rw [List.foldl_cons]
    by_cases hs : s.1 < s.2
    · have he : endStep o s = putI (putI o s.1) s.2 := if_pos hs
      obtain ⟨i1, i2, i3⟩ := ih (endStep o s) (by rw [he]; exact putI_asc _ _ (putI_asc _ _ ho))
      refine ⟨i1, fun y => ?_, ?_⟩
      · rw [i2, he, putI_mem, putI_mem]
        constructor
        · rintro ((h | h | h) | ⟨u, h1, h2⟩)
          · exact .inr ⟨s, by simp, hs, .inr h⟩
          · exact .inr ⟨s, by simp, hs, .inl h⟩
          · exact .inl h
          · exact .inr ⟨u, List.mem_cons_of_mem _ h1, h2⟩
        · rintro (h | ⟨u, h1, h2, h3⟩)
          · exact .inl (.inr (.inr h))
          · rcases List.mem_cons.1 h1 with rfl | h1
            · rcases h3 with h3 | h3
              · exact .inl (.inr (.inl h3))
              · exact .inl (.inl h3)
            · exact .inr ⟨u, h1, h2, h3⟩
      · have h1 := putI_len s.2 (putI o s.1)
        have h2 := putI_len s.1 o
        rw [he] at i3 ⊢
        simp only [List.length_cons]
        omega
    · have he : endStep o s = o := if_neg hs
      rw [he]
      obtain ⟨i1, i2, i3⟩ := ih o ho
      refine ⟨i1, fun y => ?_, by simp only [List.length_cons]; omega⟩
      rw [i2]
      constructor
      · rintro (h | ⟨u, h1, h2⟩)
        · exact .inl h
        · exact .inr ⟨u, List.mem_cons_of_mem _ h1, h2⟩
      · rintro (h | ⟨u, h1, h2, h3⟩)
        · exact .inl h
        · rcases List.mem_cons.1 h1 with rfl | h1
          · exact absurd h2 hs
          · exact .inr ⟨u, h1, h2, h3⟩
theorem endsI_asc (l : List S2) : ascI (endsI l) := (endsF l [] (by simp)).1
theorem endsI_mem (l : List S2) (y : Int) : y ∈ endsI l ↔ ∃ s ∈ l, s.1 < s.2 ∧ (y = s.1 ∨ y = s.2) := by
  have := (endsF l [] (by simp)).2.1 y
  simpa [endsI] using this
theorem endsI_len (l : List S2) : (endsI l).length ≤ 2 * l.length := by
  have := (endsF l [] (by simp)).2.2
  simpa [endsI] using this
/-! ### pieces -/
def pcStep (T : Int → Bool) (out : List S2) (p q : Int) : List S2 :=
  if T p then match out.getLast? with
    | some u => if u.2 = p then out.dropLast ++ [(u.1, q)] else out ++ [(p, q)]
    | none => [(p, q)]
  else out
def pcK (T : Int → Bool) (c : List Int) (k : Nat) : List S2 := (List.range k).foldl (fun o i => pcStep T o (c.getD i 0) (c.getD (i + 1) 0)) []
theorem pcK_succ (T : Int → Bool) (c : List Int) (k : Nat) : pcK T c (k + 1) = pcStep T (pcK T c k) (c.getD k 0) (c.getD (k + 1) 0) := by
  unfold pcK
  rw [List.range_succ, List.foldl_append]; rfl
theorem pcStep_len (T : Int → Bool) (out : List S2) (p q : Int) : (pcStep T out p q).length ≤ out.length + 1 := by
  unfold pcStep
  split
  · rcases last_cases out with rfl | ⟨b, u, rfl⟩
    · simp
    · rw [List.getLast?_append]
      simp
      split <;> simp
  · omega
theorem pcK_len (T : Int → Bool) (c : List Int) : ∀ k, (pcK T c k).length ≤ k
  | 0 => by simp [pcK]
  | k + 1 => by rw [pcK_succ]; have := pcK_len T c k; have := pcStep_len T (pcK T c k) (c.getD k 0) (c.getD (k + 1) 0); omega
theorem pcStep_ok {T : Int → Bool} {out : List S2} {p q : Int} (hf : formL out) (hu : ∀ u ∈ out, u.2 ≤ p) (hpq : p < q) :
    formL (pcStep T out p q) ∧ (∀ u ∈ pcStep T out p q, u.2 ≤ q) ∧ ∀ t, hasB (pcStep T out p q) t = (hasB out t || (T p && inS (p, q) t)) := by
  unfold pcStep
  by_cases hT : T p = true
  · rw [if_pos hT, hT]
    simp only [Bool.true_and]
    rcases last_cases out with rfl | ⟨b, u, rfl⟩
    · exact ⟨⟨hpq, by simp, trivial⟩, by simp, fun t => by rw [hasB_nil, Bool.false_or]; show hasB [(p, q)] t = _; rw [hasB_cons, hasB_nil, Bool.or_false]⟩
    · obtain ⟨f1, f2, f3⟩ := form_split b u hf
      have hup : u.2 ≤ p := hu u (by simp)
      rw [List.getLast?_append]
      simp only [List.getLast?_singleton, Option.some_or, List.dropLast_concat]
      by_cases hle : u.2 = p
      · rw [if_pos hle]
        refine ⟨form_app _ _ f1 (by dsimp only; omega) fun v hv => f3 v hv, fun v hv => ?_, fun t => ?_⟩
        · rcases List.mem_append.1 hv with hv | hv
          · have := hu v (List.mem_append_left _ hv); omega
          · simp at hv; rw [hv]; exact Int.le_refl _
        · rw [hasB_app, hasB_app, hasB_cons, hasB_cons, hasB_nil, Bool.or_false, Bool.or_false, Bool.or_assoc]
          congr 1
          apply bool_ext
          rw [Bool.or_eq_true, inS_iff, inS_iff, inS_iff]
          dsimp only
          omega
      · rw [if_neg hle]
        refine ⟨form_app _ _ hf hpq fun v hv => ?_, fun v hv => ?_, fun t => ?_⟩
        · rcases List.mem_append.1 hv with hv | hv
          · have h1 := f3 v hv; dsimp only; omega
          · simp at hv; rw [hv]; dsimp only; omega
        · rcases List.mem_append.1 hv with hv | hv
          · have := hu v hv; omega
          · simp at hv; rw [hv]; exact Int.le_refl _
        · rw [hasB_app, hasB_cons, hasB_nil, Bool.or_false]
  · have hT0 : T p = false := by simpa using hT
    rw [if_neg hT, hT0]
    exact ⟨hf, fun u h => by have := hu u h; omega, fun t => by simp⟩
/-- a set that is alike between the ends, and has nothing beyond them -/
def cutAt (c : List Int) (P : Int → Bool) : Prop :=
  (∀ (i : Nat) (p q t : Int), c[i]? = some p → c[i + 1]? = some q → p ≤ t → t < q → P t = P p) ∧ (∀ t, (∀ y ∈ c, t < y) → P t = false) ∧ (∀ t, (∀ y ∈ c, y ≤ t) → P t = false)
theorem getD_some {c : List Int} {i : Nat} {x : Int} (h : c[i]? = some x) : c.getD i 0 = x := by rw [List.getD_eq_getElem?_getD, h]; rfl
theorem pcK_ok {c : List Int} {P : Int → Bool} (hc : ascI c) (h : cutAt c P) : ∀ (k : Nat) (x : Int), c[k]? = some x → formL (pcK P c k) ∧ (∀ u ∈ pcK P c k, u.2 ≤ x) ∧ ∀ t, hasB (pcK P c k) t = (P t && decide (t < x))
  | 0, x, hx => by
    refine ⟨trivial, by simp [pcK], fun t => ?_⟩
    show false = _
    by_cases ht : t < x
    · have : P t = false := h.2.1 t fun y hy => by
        obtain ⟨j, hj⟩ := List.getElem?_of_mem hy
        rcases Nat.eq_zero_or_pos j with rfl | hj0
        · rw [hx] at hj; injection hj with hj; omega
        · have h1 := (List.pairwise_iff_getElem.1 hc) 0 j (List.getElem?_eq_some_iff.1 hx).1 (List.getElem?_eq_some_iff.1 hj).1 hj0
          rw [(List.getElem?_eq_some_iff.1 hx).2, (List.getElem?_eq_some_iff.1 hj).2] at h1
          omega
      rw [this]; rfl
    · rw [decide_eq_false ht, Bool.and_false]
  | k + 1, x, hx => by
    have hlt : k + 1 < c.length := (List.getElem?_eq_some_iff.1 hx).1
    obtain ⟨p, hp⟩ : ∃ p, c[k]? = some p := ⟨_, List.getElem?_eq_getElem (by omega)⟩
    obtain ⟨i1, i2, i3⟩ := pcK_ok hc h k p hp
    have hpx : p < x := by
      have h1 := (List.pairwise_iff_getElem.1 hc) k (k + 1) (by omega) hlt (by omega)
      rwa [(List.getElem?_eq_some_iff.1 hx).2, (List.getElem?_eq_some_iff.1 hp).2] at h1
    rw [pcK_succ, getD_some hp, getD_some hx]
    obtain ⟨j1, j2, j3⟩ := pcStep_ok (T := P) i1 i2 hpx
    refine ⟨j1, j2, fun t => ?_⟩
    rw [j3, i3]
    by_cases h1 : t < p
    · rw [decide_eq_true h1, decide_eq_true (show t < x by omega), Bool.and_true]
      have : inS (p, x) t = false := by
        rw [← Bool.not_eq_true, inS_iff]; dsimp only; omega
      rw [this, Bool.and_false, Bool.or_false]
    · rw [decide_eq_false h1, Bool.and_false, Bool.false_or]
      by_cases h2 : t < x
      · have h3 : inS (p, x) t = true := inS_iff.2 ⟨by dsimp only; omega, h2⟩
        rw [h3, decide_eq_true h2, Bool.and_true, Bool.and_true, h.1 k p x t hp hx (by omega) h2]
      · have h3 : inS (p, x) t = false := by
          rw [← Bool.not_eq_true, inS_iff]; dsimp only; omega
        rw [h3, decide_eq_false h2, Bool.and_false, Bool.and_false]
theorem pcK_nf {c : List Int} {P : Int → Bool} (hc : ascI c) (h : cutAt c P) : pcK P c (c.length - 1) = nf P := by
  rcases List.eq_nil_or_concat c with rfl | ⟨d, x, rfl⟩
  · refine (nf_of (r := []) trivial fun t => ?_).symm
    show false = _
    rw [h.2.1 t (by simp)]
  · have hx : (d.concat x)[(d.concat x).length - 1]? = some x := by simp
    obtain ⟨i1, i2, i3⟩ := pcK_ok hc h _ x hx
    refine (nf_of i1 fun t => ?_).symm
    rw [i3]
    by_cases ht : t < x
    · rw [decide_eq_true ht, Bool.and_true]
    · rw [decide_eq_false ht, Bool.and_false]
      refine (h.2.2 t fun y hy => ?_).symm
      rw [List.concat_eq_append] at hc hy
      rcases List.mem_append.1 hy with hy | hy
      · have := (List.pairwise_append.1 hc).2.2 y hy x (by simp); omega
      · simp at hy; omega
/-- sets of two lists are alike between all ends of both -/
theorem cut_ends (a b : List S2) (f : Bool → Bool → Bool) (hf : f false false = false) : cutAt (endsI (a ++ b)) fun t => f (hasB a t) (hasB b t) := by
  have hm := endsI_mem (a ++ b)
  have hasc := endsI_asc (a ++ b)
  obtain ⟨c, hc⟩ : ∃ c, c = endsI (a ++ b) := ⟨_, rfl⟩
  rw [← hc] at hm hasc ⊢
  have key : ∀ l : List S2, (∀ s ∈ l, s ∈ a ++ b) → ∀ (i : Nat) (p q t : Int), c[i]? = some p → c[i + 1]? = some q → p ≤ t → t < q → hasB l t = hasB l p := by
    intro l hl i p q t hp hq h1 h2
    have sep : ∀ y ∈ c, y ≤ p ∨ q ≤ y := by
      intro y hy
      obtain ⟨j, hj⟩ := List.getElem?_of_mem hy
      have hi0 := (List.getElem?_eq_some_iff.1 hp).1
      have hi1 := (List.getElem?_eq_some_iff.1 hq).1
      have hj1 := (List.getElem?_eq_some_iff.1 hj).1
      have ep := (List.getElem?_eq_some_iff.1 hp).2
      have eq := (List.getElem?_eq_some_iff.1 hq).2
      have ej := (List.getElem?_eq_some_iff.1 hj).2
      rcases (show j < i ∨ j = i ∨ j = i + 1 ∨ i + 1 < j by omega) with h | h | h | h
      · have := (List.pairwise_iff_getElem.1 hasc) j i hj1 hi0 h; left; omega
      · subst h; left; omega
      · subst h; right; omega
      · have := (List.pairwise_iff_getElem.1 hasc) (i + 1) j hi1 hj1 h; right; omega
    apply bool_ext
    rw [hasB_iff, hasB_iff]
    constructor
    · rintro ⟨s, hs, h3, h4⟩
      have m1 := sep s.1 ((hm s.1).2 ⟨s, hl s hs, by omega, .inl rfl⟩)
      have m2 := sep s.2 ((hm s.2).2 ⟨s, hl s hs, by omega, .inr rfl⟩)
      exact ⟨s, hs, by omega, by omega⟩
    · rintro ⟨s, hs, h3, h4⟩
      have m1 := sep s.1 ((hm s.1).2 ⟨s, hl s hs, by omega, .inl rfl⟩)
      have m2 := sep s.2 ((hm s.2).2 ⟨s, hl s hs, by omega, .inr rfl⟩)
      exact ⟨s, hs, by omega, by omega⟩
  have lo : ∀ l : List S2, (∀ s ∈ l, s ∈ a ++ b) → ∀ t, (∀ y ∈ c, t < y) → hasB l t = false := by
    intro l hl t ht
    rw [← Bool.not_eq_true, hasB_iff]
    rintro ⟨s, hs, h3, h4⟩
    have := ht s.1 ((hm s.1).2 ⟨s, hl s hs, by omega, .inl rfl⟩)
    omega
  have hi : ∀ l : List S2, (∀ s ∈ l, s ∈ a ++ b) → ∀ t, (∀ y ∈ c, y ≤ t) → hasB l t = false := by
    intro l hl t ht
    rw [← Bool.not_eq_true, hasB_iff]
    rintro ⟨s, hs, h3, h4⟩
    have := ht s.2 ((hm s.2).2 ⟨s, hl s hs, by omega, .inr rfl⟩)
    omega
  have ma : ∀ s ∈ a, s ∈ a ++ b := fun s h => List.mem_append_left _ h
  have mb : ∀ s ∈ b, s ∈ a ++ b := fun s h => List.mem_append_right _ h
  refine ⟨fun i p q t hp hq h1 h2 => ?_, fun t ht => ?_, fun t ht => ?_⟩
  · dsimp only; rw [key a ma i p q t hp hq h1 h2, key b mb i p q t hp hq h1 h2]
  · dsimp only; rw [lo a ma t ht, lo b mb t ht, hf]
  · dsimp only; rw [hi a ma t ht, hi b mb t ht, hf]
end Go.Proofs.Ytiohdacbnigpkaa

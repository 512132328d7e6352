/- Plain: sets of times as lists of spans; each set has just one list in form. No program in sight. -/
import Derived.Test.YtiohdacbnigpkaaBas
namespace Go.Proofs.Ytiohdacbnigpkaa
set_option linter.unusedVariables false

/-- a span: from, to -/
abbrev S2 := Int × Int
def inS (s : S2) (t : Int) : Bool := decide (s.1 ≤ t) && decide (t < s.2)
def hasB (l : List S2) (t : Int) : Bool := l.any fun s => inS s t
def formL : List S2 → Prop
  | [] => True
  | s :: r => s.1 < s.2 ∧ (∀ u ∈ r, s.2 < u.1) ∧ formL r
theorem hasB_nil (t : Int) : hasB [] t = false := rfl
theorem hasB_cons (s : S2) (r : List S2) (t : Int) : hasB (s :: r) t = (inS s t || hasB r t) := rfl
theorem hasB_app (a b : List S2) (t : Int) : hasB (a ++ b) t = (hasB a t || hasB b t) := by unfold hasB; rw [List.any_append]
theorem inS_iff {s : S2} {t : Int} : inS s t = true ↔ s.1 ≤ t ∧ t < s.2 := by unfold inS; rw [Bool.and_eq_true, decide_eq_true_eq, decide_eq_true_eq]
theorem hasB_iff {l : List S2} {t : Int} : hasB l t = true ↔ ∃ s ∈ l, s.1 ≤ t ∧ t < s.2 := by
  unfold hasB
  rw [List.any_eq_true]
  constructor
  · rintro ⟨s, h1, h2⟩; exact ⟨s, h1, inS_iff.1 h2⟩
  · rintro ⟨s, h1, h2⟩; exact ⟨s, h1, inS_iff.2 h2⟩
theorem bool_ext {a b : Bool} (h : a = true ↔ b = true) : a = b := by cases a <;> cases b <;> simp_all
theorem form_unique : ∀ (l m : List S2), formL l → formL m → (∀ t, hasB l t = hasB m t) → l = m
  | [], [], _, _, _ => rfl
  | [], u :: m, _, hm, h => by
    have := h u.1
    have h1 : hasB (u :: m) u.1 = true := hasB_iff.2 ⟨u, List.mem_cons_self .., Int.le_refl _, hm.1⟩
    rw [h1] at this; cases this
  | s :: l, [], hl, _, h => by
    have := h s.1
    have h1 : hasB (s :: l) s.1 = true := hasB_iff.2 ⟨s, List.mem_cons_self .., Int.le_refl _, hl.1⟩
    rw [h1] at this; cases this
  | s :: l, u :: m, hl, hm, h => by
    obtain ⟨s1, s2⟩ := s
    obtain ⟨u1, u2⟩ := u
    obtain ⟨a1, a2, a3⟩ := hl
    obtain ⟨b1, b2, b3⟩ := hm
    dsimp only at a1 a2 b1 b2
    have low : ∀ {x1 x2 : Int} {r : List S2} {t : Int}, x1 < x2 → (∀ u ∈ r, x2 < u.1) → hasB ((x1, x2) :: r) t = true → x1 ≤ t := fun {x1 x2 r t} hx hr ht => by
      obtain ⟨v, hv, h1, h2⟩ := hasB_iff.1 ht
      rcases List.mem_cons.1 hv with rfl | hv
      · exact h1
      · have := hr v hv; omega
    have i1 : s1 ≤ u1 := low a1 a2 (by rw [h]; exact hasB_iff.2 ⟨_, List.mem_cons_self .., Int.le_refl _, b1⟩)
    have i2 : u1 ≤ s1 := low b1 b2 (by rw [← h]; exact hasB_iff.2 ⟨_, List.mem_cons_self .., Int.le_refl _, a1⟩)
    have gap : ∀ {x1 x2 : Int} {r : List S2}, (∀ u ∈ r, x2 < u.1) → hasB ((x1, x2) :: r) x2 = false := fun {x1 x2 r} hr => by
      rw [← Bool.not_eq_true, hasB_iff]
      rintro ⟨v, hv, h1, h2⟩
      rcases List.mem_cons.1 hv with rfl | hv
      · exact absurd h2 (by dsimp only; omega)
      · have := hr v hv; omega
    have j1 : ¬ s2 < u2 := fun hlt => by
      have h1 := gap (x1 := s1) a2
      have h2 : hasB ((u1, u2) :: m) s2 = true := hasB_iff.2 ⟨_, List.mem_cons_self .., by dsimp only; omega, hlt⟩
      rw [h, h2] at h1; cases h1
    have j2 : ¬ u2 < s2 := fun hlt => by
      have h1 := gap (x1 := u1) b2
      have h2 : hasB ((s1, s2) :: l) u2 = true := hasB_iff.2 ⟨_, List.mem_cons_self .., by dsimp only; omega, hlt⟩
      rw [← h, h2] at h1; cases h1
    have e1 : s1 = u1 := by omega
    have e2 : s2 = u2 := by omega
    subst e1 e2
    congr 1
    refine form_unique l m a3 b3 fun t => ?_
    have ht := h t
    rw [hasB_cons, hasB_cons] at ht
    by_cases hi : inS (s1, s2) t = true
    · have hi2 := inS_iff.1 hi
      have no : ∀ {r : List S2}, (∀ u ∈ r, s2 < u.1) → hasB r t = false := fun {r} hr => by
        rw [← Bool.not_eq_true, hasB_iff]
        rintro ⟨v, hv, h1, h2⟩
        have := hr v hv
        dsimp only at hi2
        omega
      rw [no a2, no b2]
    · have hi0 : inS (s1, s2) t = false := by simpa using hi
      rw [hi0, Bool.false_or, Bool.false_or] at ht
      exact ht
/-- the list in form of a set that has one -/
noncomputable def nf (P : Int → Bool) : List S2 := open Classical in if h : ∃ r, formL r ∧ ∀ t, hasB r t = P t then Classical.choose h else []
theorem nf_of {P : Int → Bool} {r : List S2} (h1 : formL r) (h2 : ∀ t, hasB r t = P t) : nf P = r := by
  have h : ∃ r, formL r ∧ ∀ t, hasB r t = P t := ⟨r, h1, h2⟩
  unfold nf
  rw [dif_pos h]
  have := Classical.choose_spec h
  exact form_unique _ _ this.1 h1 fun t => by rw [this.2, h2]
/-- a set that is told by a list -/
def listed (P : Int → Bool) : Prop := ∃ r, formL r ∧ ∀ t, hasB r t = P t
theorem nf_form {P : Int → Bool} (h : listed P) : formL (nf P) := by
  obtain ⟨r, h1, h2⟩ := h
  rw [nf_of h1 h2]; exact h1
theorem nf_has {P : Int → Bool} (h : listed P) (t : Int) : hasB (nf P) t = P t := by
  obtain ⟨r, h1, h2⟩ := h
  rw [nf_of h1 h2]; exact h2 t
theorem nf_self {r : List S2} (h : formL r) : nf (hasB r) = r := nf_of h fun _ => rfl
theorem nf_inj {P Q : Int → Bool} (hP : listed P) (hQ : listed Q) : nf P = nf Q ↔ P = Q := by
  constructor
  · intro h
    funext t
    rw [← nf_has hP, ← nf_has hQ, h]
  · intro h; rw [h]

/-! ### spans that are sorted, put together -/
/-- one span more: onto the last one, or behind -/
def mgStep (acc : List S2) (s : S2) : List S2 :=
  match acc.getLast? with
  | some u => if s.1 ≤ u.2 then acc.dropLast ++ [(u.1, max u.2 s.2)] else acc ++ [s]
  | none => [s]
def mgF (acc l : List S2) : List S2 := l.foldl mgStep acc
theorem form_app : ∀ (a : List S2) (s : S2), formL a → s.1 < s.2 → (∀ u ∈ a, u.2 < s.1) → formL (a ++ [s])
  | [], s, _, h, _ => ⟨h, by simp, trivial⟩
  | x :: a, s, hf, h, hu => by
    obtain ⟨h1, h2, h3⟩ := hf
    refine ⟨h1, fun v hv => ?_, form_app a s h3 h fun u hm => hu u (List.mem_cons_of_mem _ hm)⟩
    rcases List.mem_append.1 hv with hv | hv
    · exact h2 v hv
    · simp at hv; rw [hv]; exact hu x (List.mem_cons_self ..)
theorem form_split : ∀ (a : List S2) (s : S2), formL (a ++ [s]) → formL a ∧ s.1 < s.2 ∧ ∀ u ∈ a, u.2 < s.1
  | [], s, h => ⟨trivial, h.1, by simp⟩
  | x :: a, s, h => by
    obtain ⟨h1, h2, h3⟩ := h
    obtain ⟨i1, i2, i3⟩ := form_split a s h3
    refine ⟨⟨h1, fun v hv => h2 v (List.mem_append_left _ hv), i1⟩, i2, fun u hu => ?_⟩
    rcases List.mem_cons.1 hu with rfl | hu
    · exact h2 s (List.mem_append_right _ (List.mem_singleton.2 rfl))
    · exact i3 u hu
/-- all begin no later than s -/
def begins (a : List S2) (s : S2) : Prop := ∀ u ∈ a, u.1 ≤ s.1
theorem last_cases (a : List S2) : a = [] ∨ ∃ b u, a = b ++ [u] := by
  rcases List.eq_nil_or_concat a with h | ⟨b, u, h⟩
  · exact .inl h
  · exact .inr ⟨b, u, by simpa using h⟩
theorem mgStep_nil (s : S2) : mgStep [] s = [s] := rfl
theorem mgStep_last (b : List S2) (u s : S2) : mgStep (b ++ [u]) s = if s.1 ≤ u.2 then b ++ [(u.1, max u.2 s.2)] else b ++ [u] ++ [s] := by
  unfold mgStep
  rw [List.getLast?_append]
  simp
theorem mgStep_ok {a : List S2} {s : S2} (hf : formL a) (hs : s.1 < s.2) (hb : begins a s) : formL (mgStep a s) ∧ (∀ t, hasB (mgStep a s) t = (hasB a t || inS s t)) ∧ ∀ v, begins (a ++ [s]) v → begins (mgStep a s) v := by
  rcases last_cases a with rfl | ⟨b, u, rfl⟩
  · rw [mgStep_nil]
    exact ⟨⟨hs, by simp, trivial⟩, fun t => by rw [hasB_cons, hasB_nil, Bool.or_comm], fun v h => h⟩
  · obtain ⟨f1, f2, f3⟩ := form_split b u hf
    rw [mgStep_last]
    have hu : u.1 ≤ s.1 := hb u (by simp)
    by_cases hle : s.1 ≤ u.2
    · rw [if_pos hle]
      refine ⟨form_app _ _ f1 (by dsimp only; omega) fun v hv => f3 v hv, fun t => ?_, fun v hv => ?_⟩
      · rw [hasB_app, hasB_app, hasB_cons, hasB_cons, hasB_nil, Bool.or_false, Bool.or_false, Bool.or_assoc]
        congr 1
        apply bool_ext
        rw [Bool.or_eq_true, inS_iff, inS_iff, inS_iff]
        dsimp only
        omega
      · intro w hw
        rcases List.mem_append.1 hw with hw | hw
        · exact hv w (by simp [hw])
        · simp at hw; rw [hw]; exact hv u (by simp)
    · rw [if_neg hle]
      refine ⟨form_app _ _ hf hs fun v hv => ?_, fun t => ?_, fun v hv => hv⟩
      · rcases List.mem_append.1 hv with hv | hv
        · have h1 := f3 v hv; omega
        · simp at hv; rw [hv]; omega
      · rw [hasB_app, hasB_cons, hasB_nil, Bool.or_false]
/-- sorted by where they begin -/
def sortedL : List S2 → Prop
  | [] => True
  | s :: r => (∀ u ∈ r, s.1 ≤ u.1) ∧ sortedL r
theorem mgF_ok : ∀ (l a : List S2), formL a → (∀ s ∈ l, s.1 < s.2) → sortedL l → (∀ s ∈ l, begins a s) → formL (mgF a l) ∧ ∀ t, hasB (mgF a l) t = (hasB a t || hasB l t)
  | [], a, hf, _, _, _ => ⟨hf, fun t => by rw [hasB_nil, Bool.or_false]; rfl⟩
  | s :: l, a, hf, hs, ho, hb => by
    have h0 := hs s (List.mem_cons_self ..)
    obtain ⟨m1, m2, m3⟩ := mgStep_ok hf h0 (hb s (List.mem_cons_self ..))
    obtain ⟨i1, i2⟩ := mgF_ok l (mgStep a s) m1 (fun u hu => hs u (List.mem_cons_of_mem _ hu)) ho.2 (fun u hu => m3 u fun v hv => by
      rcases List.mem_append.1 hv with hv | hv
      · exact hb u (List.mem_cons_of_mem _ hu) v hv
      · simp at hv; rw [hv]; exact ho.1 u hu)
    refine ⟨i1, fun t => ?_⟩
    have : mgF a (s :: l) = mgF (mgStep a s) l := rfl
    rw [this, i2, m2, hasB_cons, Bool.or_assoc]
theorem mgF_set {l : List S2} (hs : ∀ s ∈ l, s.1 < s.2) (ho : sortedL l) : nf (hasB l) = mgF [] l := by
  obtain ⟨h1, h2⟩ := mgF_ok l [] trivial hs ho (fun s _ u hu => by simp at hu)
  exact nf_of h1 fun t => by rw [h2, hasB_nil, Bool.false_or]
/-! ### a list's set is listed -/
def full (l : List S2) : List S2 := l.filter fun s => decide (s.1 < s.2)
theorem hasB_full (l : List S2) (t : Int) : hasB (full l) t = hasB l t := by
  apply bool_ext
  rw [hasB_iff, hasB_iff]
  constructor
  · rintro ⟨s, h1, h2⟩; exact ⟨s, (List.mem_filter.1 h1).1, h2⟩
  · rintro ⟨s, h1, h2⟩; exact ⟨s, List.mem_filter.2 ⟨h1, decide_eq_true (by omega)⟩, h2⟩
def insS (s : S2) : List S2 → List S2
  | [] => [s]
  | u :: r => if s.1 ≤ u.1 then s :: u :: r else u :: insS s r
def isort : List S2 → List S2
  | [] => []
  | s :: r => insS s (isort r)
theorem insS_mem (s v : S2) : ∀ r, v ∈ insS s r ↔ v = s ∨ v ∈ r
  | [] => by simp [insS]
  | u :: r => by
    unfold insS
    split
    · simp
    · rw [List.mem_cons, insS_mem s v r, List.mem_cons]
      constructor
      · rintro (h | h | h)
        · exact .inr (.inl h)
        · exact .inl h
        · exact .inr (.inr h)
      · rintro (h | h | h)
        · exact .inr (.inl h)
        · exact .inl h
        · exact .inr (.inr h)
theorem insS_sorted (s : S2) : ∀ r, sortedL r → sortedL (insS s r)
  | [], _ => ⟨by simp, trivial⟩
  | u :: r, h => by
    unfold insS
    split
    · rename_i hle
      refine ⟨fun v hv => ?_, h⟩
      rcases List.mem_cons.1 hv with rfl | hv
      · exact hle
      · exact Int.le_trans hle (h.1 v hv)
    · rename_i hle
      refine ⟨fun v hv => ?_, insS_sorted s r h.2⟩
      rcases (insS_mem s v r).1 hv with rfl | hv
      · omega
      · exact h.1 v hv
theorem isort_mem (v : S2) : ∀ r, v ∈ isort r ↔ v ∈ r
  | [] => Iff.rfl
  | u :: r => by unfold isort; rw [insS_mem, isort_mem v r, List.mem_cons]
theorem isort_sorted : ∀ r, sortedL (isort r)
  | [] => trivial
  | u :: r => insS_sorted u _ (isort_sorted r)
theorem hasB_mem {l m : List S2} (h : ∀ s, s ∈ l ↔ s ∈ m) (t : Int) : hasB l t = hasB m t := by
  apply bool_ext
  rw [hasB_iff, hasB_iff]
  exact ⟨fun ⟨s, h1, h2⟩ => ⟨s, (h s).1 h1, h2⟩, fun ⟨s, h1, h2⟩ => ⟨s, (h s).2 h1, h2⟩⟩
theorem listed_of (l : List S2) : listed (hasB l) := by
  have hs : ∀ s ∈ isort (full l), s.1 < s.2 := fun s h => by
    have := (List.mem_filter.1 ((isort_mem s _).1 h)).2
    simpa using this
  obtain ⟨h1, h2⟩ := mgF_ok (isort (full l)) [] trivial hs (isort_sorted _) (fun s _ u hu => by simp at hu)
  exact ⟨_, h1, fun t => by rw [h2, hasB_nil, Bool.false_or, hasB_mem (fun s => isort_mem s _) t, hasB_full]⟩
theorem listed_ext {P Q : Int → Bool} (h : ∀ t, P t = Q t) (hP : listed P) : listed Q := by
  have : P = Q := funext h
  rw [← this]; exact hP
/-! ### two sets -/
def andS (x y : S2) : S2 := (max x.1 y.1, min x.2 y.2)
def andL (a b : List S2) : List S2 := a.flatMap fun x => b.map (andS x)
theorem hasB_and (a b : List S2) (t : Int) : hasB (andL a b) t = (hasB a t && hasB b t) := by
  apply bool_ext
  rw [Bool.and_eq_true, hasB_iff, hasB_iff, hasB_iff]
  unfold andL andS
  constructor
  · rintro ⟨s, h, h1, h2⟩
    obtain ⟨x, hx, h⟩ := List.mem_flatMap.1 h
    obtain ⟨y, hy, rfl⟩ := List.mem_map.1 h
    dsimp only at h1 h2
    exact ⟨⟨x, hx, by omega, by omega⟩, ⟨y, hy, by omega, by omega⟩⟩
  · rintro ⟨⟨x, hx, h1, h2⟩, ⟨y, hy, h3, h4⟩⟩
    exact ⟨_, List.mem_flatMap.2 ⟨x, hx, List.mem_map.2 ⟨y, hy, rfl⟩⟩, by dsimp only; omega, by dsimp only; omega⟩
theorem listed_or {P Q : Int → Bool} (hP : listed P) (hQ : listed Q) : listed fun t => P t || Q t := by
  obtain ⟨a, _, ha⟩ := hP
  obtain ⟨b, _, hb⟩ := hQ
  exact listed_ext (fun t => by rw [hasB_app, ha, hb]) (listed_of (a ++ b))
theorem listed_and {P Q : Int → Bool} (hP : listed P) (hQ : listed Q) : listed fun t => P t && Q t := by
  obtain ⟨a, _, ha⟩ := hP
  obtain ⟨b, _, hb⟩ := hQ
  exact listed_ext (fun t => by rw [hasB_and, ha, hb]) (listed_of (andL a b))
/-- a list less one span: in form, if the list is -/
def cutS (y : S2) (x : S2) : List S2 := full [(x.1, min x.2 y.1), (max x.1 y.2, x.2)]
def cutL (y : S2) (l : List S2) : List S2 := l.flatMap (cutS y)
theorem hasB_cut {y x : S2} (hy : y.1 < y.2) (t : Int) : hasB (cutS y x) t = (inS x t && !inS y t) := by
  unfold cutS
  rw [hasB_full]
  apply bool_ext
  rw [Bool.and_eq_true, hasB_cons, hasB_cons, hasB_nil, Bool.or_false, Bool.or_eq_true, inS_iff, inS_iff, inS_iff, Bool.not_eq_true', ← Bool.not_eq_true, inS_iff]
  dsimp only
  omega
theorem hasB_cutL {y : S2} (hy : y.1 < y.2) (l : List S2) (t : Int) : hasB (cutL y l) t = (hasB l t && !inS y t) := by
  unfold cutL
  induction l with
  | nil => rfl
  | cons x l ih => rw [List.flatMap_cons, hasB_app, hasB_cut hy, ih, hasB_cons, Bool.and_or_distrib_right]
theorem form_mem {l : List S2} (h : formL l) : ∀ s ∈ l, s.1 < s.2 := by
  induction l with
  | nil => simp
  | cons u r ih =>
    intro s hs
    rcases List.mem_cons.1 hs with rfl | hs
    · exact h.1
    · exact ih h.2.2 s hs
theorem form_two : ∀ (a b : List S2), formL a → formL b → (∀ s ∈ a, ∀ u ∈ b, s.2 < u.1) → formL (a ++ b)
  | [], b, _, hb, _ => hb
  | x :: a, b, ha, hb, h => by
    refine ⟨ha.1, fun v hv => ?_, form_two a b ha.2.2 hb fun s hs u hu => h s (List.mem_cons_of_mem _ hs) u hu⟩
    rcases List.mem_append.1 hv with hv | hv
    · exact ha.2.1 v hv
    · exact h x (List.mem_cons_self ..) v hv
theorem cutS_in {y x s : S2} (h : s ∈ cutS y x) : s.1 < s.2 ∧ x.1 ≤ s.1 ∧ s.2 ≤ x.2 ∧ (s = (x.1, min x.2 y.1) ∨ s = (max x.1 y.2, x.2)) := by
  unfold cutS full at h
  rw [List.mem_filter] at h
  obtain ⟨h1, h2⟩ := h
  simp only [decide_eq_true_eq] at h2
  simp only [List.mem_cons, List.not_mem_nil, or_false] at h1
  refine ⟨h2, ?_, ?_, h1⟩ <;> (rcases h1 with rfl | rfl <;> (dsimp only; omega))
theorem cutS_form {y x : S2} (hy : y.1 < y.2) : formL (cutS y x) := by
  unfold cutS full
  by_cases h1 : x.1 < min x.2 y.1
  · by_cases h2 : max x.1 y.2 < x.2
    · simp only [List.filter_cons, h1, h2, decide_true, if_true, List.filter_nil]
      exact ⟨h1, by simp; omega, h2, by simp, trivial⟩
    · simp only [List.filter_cons, h1, h2, decide_true, decide_false, if_true, List.filter_nil]
      exact ⟨h1, by simp, trivial⟩
  · by_cases h2 : max x.1 y.2 < x.2
    · simp only [List.filter_cons, h1, h2, decide_true, decide_false, if_true, List.filter_nil]
      exact ⟨h2, by simp, trivial⟩
    · simp only [List.filter_cons, h1, h2, decide_false, List.filter_nil]
      exact trivial
theorem cutL_form {y : S2} (hy : y.1 < y.2) : ∀ l : List S2, formL l → formL (cutL y l)
  | [], _ => trivial
  | x :: l, h => by
    unfold cutL
    rw [List.flatMap_cons]
    refine form_two _ _ (cutS_form hy) (cutL_form hy l h.2.2) fun s hs u hu => ?_
    obtain ⟨v, hv, hu⟩ := List.mem_flatMap.1 hu
    have h1 := (cutS_in hs).2.2.1
    have h2 := (cutS_in hu).2.1
    have h3 := h.2.1 v hv
    omega
def minusL (a b : List S2) : List S2 := b.foldl (fun l y => cutL y l) a
theorem minusL_ok : ∀ (b a : List S2), formL a → (∀ y ∈ b, y.1 < y.2) → formL (minusL a b) ∧ ∀ t, hasB (minusL a b) t = (hasB a t && !hasB b t)
  | [], a, ha, _ => ⟨ha, fun t => by rw [hasB_nil]; simp [minusL]⟩
  | y :: b, a, ha, hy => by
    have h0 := hy y (List.mem_cons_self ..)
    obtain ⟨i1, i2⟩ := minusL_ok b (cutL y a) (cutL_form h0 a ha) fun u hu => hy u (List.mem_cons_of_mem _ hu)
    refine ⟨i1, fun t => ?_⟩
    have e : minusL a (y :: b) = minusL (cutL y a) b := rfl
    rw [e, i2, hasB_cutL h0, hasB_cons]
    cases hasB a t <;> cases inS y t <;> simp
theorem listed_minus {P Q : Int → Bool} (hP : listed P) (hQ : listed Q) : listed fun t => P t && !Q t := by
  obtain ⟨a, fa, ha⟩ := hP
  obtain ⟨b, fb, hb⟩ := hQ
  obtain ⟨h1, h2⟩ := minusL_ok b a fa (form_mem fb)
  exact ⟨_, h1, fun t => by rw [h2, ha, hb]⟩
end Go.Proofs.Ytiohdacbnigpkaa

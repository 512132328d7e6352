/- Plain: all facts that the laws SpansWhole and SpansAlign ask. No program in sight (but for what the functions compute). -/
import Derived.Test.YtiohdacbnigpkaaSetW
namespace Go.Proofs.Ytiohdacbnigpkaa
set_option linter.unusedVariables false

theorem tim_bnd {t : Int} (h : tim t) : bnd t := by unfold tim at h; unfold bnd; omega
theorem has_one (u v t : Int) : hasB [(u, v)] t = true ↔ u ≤ t ∧ t < v := by rw [hasB_cons, hasB_nil, Bool.or_false, inS_iff]
theorem bool_cases (b : Bool) : b = true ∨ b = false := by cases b <;> simp
theorem ne_nil_len {l : List S2} (h : l ≠ []) : (0 : Int) < (l.length : Int) := by
  have := List.length_pos_iff.2 h; omega
theorem ne_nil_len2 {l : List S2} (h : l ≠ []) : ((l.length : Int) == 0) = false := by
  have := List.length_pos_iff.2 h
  simp; exact h
theorem has_ne {l : List S2} {t : Int} (h : hasB l t = true) : l ≠ [] := by rintro rfl; cases h
theorem whole_facts {n t : Int} {a : List S2} (hn : 1 ≤ n ∧ n ≤ 1099511627776) (ht : tim t) (ha : ∀ s ∈ a, tim s.1 ∧ tim s.2) : ∃ (u v : Int) (o i z1 z2 : List S2) (q1 q2 : Bool),
    bkF t n = u ∧ bkT t n = v ∧ wrg n [t] = 0 ∧ wholeR (oS n) n a = (o, 0) ∧ inR n a = (i, 0) ∧ formL o ∧ formL i ∧ o.length ≤ a.length ∧ i.length ≤ a.length ∧ q1 = hasB o t ∧ q2 = hasB i t ∧
    z1 = andR a [(u, v)] ∧ z2 = minR [(u, v)] a ∧ z1.length ≤ 2 * (a.length + 1) ∧ z2.length ≤ 2 * (1 + a.length) ∧
    ((q1 = true ∧ (0 : Int) < (z1.length : Int)) ∨ (q1 = false ∧ z1 = [])) ∧ ((q2 = true ∧ z2 = []) ∨ (q2 = false ∧ ((z2.length : Int) == 0) = false)) ∧
    [] = minR i a ∧ [] = minR a o ∧ wholeR (oS n) n o = (o, 0) ∧ inR n o = (o, 0) := by
  have hz := wrgS_tim hn ha
  have hzo : wrgS n (outL n a) = 0 := wrgS_ok hn (outL_bd hn ha)
  have ho := outL_has hz
  have hi := inL_has hz
  have hw : wrg n [t] = 0 := wrg_ok hn.1 hn.2 (tim_bnd ht)
  have hb := fl_bd t n hn.1
  have hbk : ∀ x, (fl t n ≤ x ∧ x < fl t n + n) ↔ fl x n = fl t n := fun x => bkt_iff hn.1
  refine ⟨fl t n, fl t n + n, outL n a, inL n a, andR a [(fl t n, fl t n + n)], minR [(fl t n, fl t n + n)] a, hasB (outL n a) t, hasB (inL n a) t, if_pos hw, if_pos hw, hw, wholeR_ok hz, inR_ok hz, outL_form _ _, inL_form _ _, outL_len _ _, inL_len _ _, rfl, rfl, rfl, rfl, andR_len _ _, minR_len _ _, ?_, ?_, ?_, ?_, ?_, ?_⟩
  · rcases bool_cases (hasB (outL n a) t) with h | h
    · left
      refine ⟨h, ne_nil_len ?_⟩
      obtain ⟨x, h1, h2⟩ := (ho t).1 h
      exact has_ne (t := x) (by rw [andR_has, h2, (has_one _ _ _).2 ((hbk x).2 h1)]; rfl)
    · right
      refine ⟨h, nil_of (andR_form _ _) fun x => ?_⟩
      rw [andR_has]
      rcases bool_cases (hasB a x) with h1 | h1
      · rcases bool_cases (hasB [(fl t n, fl t n + n)] x) with h2 | h2
        · have := (ho t).2 ⟨x, (hbk x).1 ((has_one _ _ _).1 h2), h1⟩
          rw [h] at this; cases this
        · rw [h2, Bool.and_false]
      · rw [h1, Bool.false_and]
  · rcases bool_cases (hasB (inL n a) t) with h | h
    · left
      refine ⟨h, nil_of (minR_form _ _) fun x => ?_⟩
      rw [minR_has]
      rcases bool_cases (hasB [(fl t n, fl t n + n)] x) with h2 | h2
      · rw [(hi t).1 h x ((hbk x).1 ((has_one _ _ _).1 h2)), Bool.not_true, Bool.and_false]
      · rw [h2, Bool.false_and]
    · right
      refine ⟨h, ne_nil_len2 fun he => ?_⟩
      have : hasB (inL n a) t = true := (hi t).2 fun x hx => by
        rcases bool_cases (hasB a x) with h1 | h1
        · exact h1
        · have h3 : hasB (minR [(fl t n, fl t n + n)] a) x = true := by rw [minR_has, h1, (has_one _ _ _).2 ((hbk x).2 hx)]; rfl
          rw [he] at h3; cases h3
      rw [h] at this; cases this
  · refine (nil_of (minR_form _ _) fun x => ?_).symm
    rw [minR_has]
    rcases bool_cases (hasB (inL n a) x) with h1 | h1
    · rw [(hi x).1 h1 x rfl, Bool.not_true, Bool.and_false]
    · rw [h1, Bool.false_and]
  · refine (nil_of (minR_form _ _) fun x => ?_).symm
    rw [minR_has]
    rcases bool_cases (hasB a x) with h1 | h1
    · rw [(ho x).2 ⟨x, rfl, h1⟩, Bool.not_true, Bool.and_false]
    · rw [h1, Bool.false_and]
  · rw [wholeR_ok hzo, out_out hz hzo]
  · rw [inR_ok hzo, in_out hz hzo]
theorem align_facts {n : Int} {a b : List S2} (hn : 1 ≤ n ∧ n ≤ 1099511627776) (ha : ∀ s ∈ a, tim s.1 ∧ tim s.2) (hb : ∀ s ∈ b, tim s.1 ∧ tim s.2) : ∃ (lo hi : Int) (ab aa oab oa ob iaa ia ib m im : List S2),
    flr (-4611686018427387904) n = lo ∧ cei 4611686018427387903 n = hi ∧ wrg n [-4611686018427387904] = 0 ∧ wrg n [4611686018427387903] = 0 ∧
    ab = ofL (a ++ b) ∧ aa = andR a b ∧ wholeR (oS n) n ab = (oab, 0) ∧ wholeR (oS n) n a = (oa, 0) ∧ wholeR (oS n) n b = (ob, 0) ∧ inR n aa = (iaa, 0) ∧ inR n a = (ia, 0) ∧ inR n b = (ib, 0) ∧
    m = minR [(lo, hi)] a ∧ inR n m = (im, 0) ∧ oab = ofL (oa ++ ob) ∧ iaa = andR ia ib ∧ im = minR [(lo, hi)] oa ∧
    ab.length ≤ a.length + b.length ∧ aa.length ≤ 2 * (a.length + b.length) ∧ oab.length ≤ a.length + b.length ∧ oa.length ≤ a.length ∧ ob.length ≤ b.length ∧ iaa.length ≤ 2 * (a.length + b.length) ∧ ia.length ≤ a.length ∧ ib.length ≤ b.length ∧ m.length ≤ 2 * (1 + a.length) ∧ im.length ≤ 2 * (1 + a.length) := by
  have za := wrgS_tim hn ha
  have zb := wrgS_tim hn hb
  have hbd : ∀ l : List S2, (∀ s ∈ l, tim s.1 ∧ tim s.2) → ∀ t, hasB l t = true → -4611686018427387904 ≤ t ∧ t < 4611686018427387903 := fun l hl t ht => by
    obtain ⟨s, hs, h1, h2⟩ := hasB_iff.1 ht
    have := hl s hs
    unfold tim at this
    omega
  have zab : wrgS n (ofL (a ++ b)) = 0 := wrgS_ok hn fun t ht => by
    rw [ofL_has, hasB_app, Bool.or_eq_true] at ht
    rcases ht with h | h
    · have := hbd a ha t h; omega
    · have := hbd b hb t h; omega
  have zaa : wrgS n (andR a b) = 0 := wrgS_ok hn fun t ht => by
    rw [andR_has, Bool.and_eq_true] at ht
    have := hbd a ha t ht.1; omega
  have w1 : wrg n [-4611686018427387904] = 0 := wrg_ok hn.1 hn.2 (by unfold bnd; omega)
  have w2 : wrg n [4611686018427387903] = 0 := wrg_ok hn.1 hn.2 (by unfold bnd; omega)
  have b1 := fl_bd (-4611686018427387904) n hn.1
  have b2 := cl_bd 4611686018427387903 n hn.1
  have hall : ∀ t, hasB [(fl (-4611686018427387904) n, cl 4611686018427387903 n)] t = true ↔ fl (-4611686018427387904) n ≤ t ∧ t < cl 4611686018427387903 n := fun t => has_one _ _ t
  have zm : wrgS n (minR [(fl (-4611686018427387904) n, cl 4611686018427387903 n)] a) = 0 := wrgS_ok hn fun t ht => by
    rw [minR_has, Bool.and_eq_true, hall] at ht
    omega
  have hal : ∀ t u, fl u n = fl t n → (hasB [(fl (-4611686018427387904) n, cl 4611686018427387903 n)] u = true ↔ hasB [(fl (-4611686018427387904) n, cl 4611686018427387903 n)] t = true) := fun t u hu => by
    rw [hall, hall, fl_le_iff hn.1, fl_le_iff hn.1, lt_cl_iff hn.1, lt_cl_iff hn.1, hu]
  refine ⟨fl (-4611686018427387904) n, cl 4611686018427387903 n, ofL (a ++ b), andR a b, outL n (ofL (a ++ b)), outL n a, outL n b, inL n (andR a b), inL n a, inL n b, minR [(fl (-4611686018427387904) n, cl 4611686018427387903 n)] a, inL n (minR [(fl (-4611686018427387904) n, cl 4611686018427387903 n)] a),
    if_pos w1, if_pos w2, w1, w2, rfl, rfl, wholeR_ok zab, wholeR_ok za, wholeR_ok zb, inR_ok zaa, inR_ok za, inR_ok zb, rfl, inR_ok zm, ?_, ?_, ?_, ?_, andR_len _ _, ?_, outL_len _ _, outL_len _ _, ?_, inL_len _ _, inL_len _ _, minR_len _ _, ?_⟩
  · refine (ofL_of (outL_form _ _) fun t => ?_).symm
    apply bool_ext
    rw [hasB_app, Bool.or_eq_true, outL_has zab, outL_has za, outL_has zb]
    constructor
    · rintro ⟨u, h1, h2⟩
      rw [ofL_has, hasB_app, Bool.or_eq_true] at h2
      rcases h2 with h2 | h2
      · exact .inl ⟨u, h1, h2⟩
      · exact .inr ⟨u, h1, h2⟩
    · rintro (⟨u, h1, h2⟩ | ⟨u, h1, h2⟩)
      · exact ⟨u, h1, by rw [ofL_has, hasB_app, h2]; rfl⟩
      · exact ⟨u, h1, by rw [ofL_has, hasB_app, h2, Bool.or_true]⟩
  · refine form_eq (inL_form _ _) (andR_form _ _) fun t => ?_
    apply bool_ext
    rw [andR_has, Bool.and_eq_true, inL_has zaa, inL_has za, inL_has zb]
    constructor
    · intro h
      refine ⟨fun u hu => ?_, fun u hu => ?_⟩
      · have := h u hu; rw [andR_has, Bool.and_eq_true] at this; exact this.1
      · have := h u hu; rw [andR_has, Bool.and_eq_true] at this; exact this.2
    · rintro ⟨h1, h2⟩ u hu
      rw [andR_has, h1 u hu, h2 u hu]; rfl
  · refine form_eq (inL_form _ _) (minR_form _ _) fun t => ?_
    apply bool_ext
    rw [minR_has, Bool.and_eq_true, inL_has zm]
    constructor
    · intro h
      have h0 := h t rfl
      rw [minR_has, Bool.and_eq_true] at h0
      refine ⟨h0.1, ?_⟩
      rw [Bool.not_eq_true', ← Bool.not_eq_true, outL_has za]
      rintro ⟨u, h1, h2⟩
      have := h u h1
      rw [minR_has, h2, Bool.not_true, Bool.and_false] at this
      cases this
    · rintro ⟨h1, h2⟩ u hu
      rw [minR_has, Bool.and_eq_true]
      refine ⟨(hal t u hu).2 h1, ?_⟩
      rw [Bool.not_eq_true', ← Bool.not_eq_true]
      intro h3
      rw [(outL_has za t).2 ⟨u, hu, h3⟩] at h2
      cases h2
  · have := ofL_len (a ++ b); rw [List.length_append] at this; exact this
  · have h1 := outL_len n (ofL (a ++ b))
    have h2 := ofL_len (a ++ b)
    rw [List.length_append] at h2
    omega
  · have h1 := inL_len n (andR a b)
    have h2 := andR_len a b
    omega
  · have h1 := inL_len n (minR [(fl (-4611686018427387904) n, cl 4611686018427387903 n)] a)
    have h2 := minR_len [(fl (-4611686018427387904) n, cl 4611686018427387903 n)] a
    simp only [List.length_cons, List.length_nil] at h2
    omega
end Go.Proofs.Ytiohdacbnigpkaa

/- Plain: sets made whole; laws of sets. No program in sight (but for what the functions compute). -/
import Derived.Test.YtiohdacbnigpkaaSet9
import Derived.Test.YtiohdacbnigpkaaSpanQ
import Derived.Test.YtiohdacbnigpkaaSet12
import Derived.Test.YtiohdacbnigpkaaSR6
namespace Go.Proofs.Ytiohdacbnigpkaa
set_option linter.unusedVariables false

noncomputable def andR (a b : List S2) : List S2 := nf fun t => hasB a t && hasB b t
noncomputable def minR (a b : List S2) : List S2 := nf fun t => hasB a t && !hasB b t
theorem andR_listed (a b : List S2) : listed fun t => hasB a t && hasB b t := listed_and (listed_of a) (listed_of b)
theorem minR_listed (a b : List S2) : listed fun t => hasB a t && !hasB b t := listed_minus (listed_of a) (listed_of b)
theorem andR_has (a b : List S2) (t : Int) : hasB (andR a b) t = (hasB a t && hasB b t) := nf_has (andR_listed a b) t
theorem minR_has (a b : List S2) (t : Int) : hasB (minR a b) t = (hasB a t && !hasB b t) := nf_has (minR_listed a b) t
theorem andR_form (a b : List S2) : formL (andR a b) := nf_form (andR_listed a b)
theorem minR_form (a b : List S2) : formL (minR a b) := nf_form (minR_listed a b)
theorem andR_len (a b : List S2) : (andR a b).length ≤ 2 * (a.length + b.length) := nf_len a b (fun p q => p && q) rfl rfl
theorem minR_len (a b : List S2) : (minR a b).length ≤ 2 * (a.length + b.length) := nf_len a b (fun p q => p && !q) rfl rfl
theorem ofL_eq {a b : List S2} (h : ∀ t, hasB a t = hasB b t) : ofL a = ofL b := by
  show nf (hasB a) = nf (hasB b)
  rw [funext h]
theorem ofL_of {a r : List S2} (hr : formL r) (h : ∀ t, hasB r t = hasB a t) : ofL a = r := nf_of hr h
theorem form_eq {a b : List S2} (ha : formL a) (hb : formL b) (h : ∀ t, hasB a t = hasB b t) : a = b := form_unique a b ha hb h
theorem nil_of {a : List S2} (ha : formL a) (h : ∀ t, hasB a t = false) : a = [] := form_eq ha trivial fun t => by rw [h, hasB_nil]
/-! ### made whole -/
/-- a list has all of a stretch: one span of it has it, if it is in form -/
theorem form_stretch : ∀ (l : List S2) (x y : Int), formL l → x < y → (∀ u, x ≤ u → u < y → hasB l u = true) → ∃ s ∈ l, s.1 ≤ x ∧ y ≤ s.2
  | [], x, y, _, h, hh => by have := hh x (Int.le_refl _) h; cases this
  | s :: l, x, y, hf, h, hh => by
    obtain ⟨h1, h2, h3⟩ := hf
    by_cases hs : hasB l x = true
    · have hge : ∀ u, x ≤ u → u < y → hasB l u = true := by
        intro u hu1 hu2
        obtain ⟨v, hv, v1, v2⟩ := hasB_iff.1 hs
        have := hh u hu1 hu2
        rw [hasB_cons, Bool.or_eq_true, inS_iff] at this
        rcases this with h4 | h4
        · have := h2 v hv; omega
        · exact h4
      obtain ⟨v, hv, h4⟩ := form_stretch l x y h3 h hge
      exact ⟨v, List.mem_cons_of_mem _ hv, h4⟩
    · have hx := hh x (Int.le_refl _) h
      rw [hasB_cons, Bool.or_eq_true, inS_iff] at hx
      have hx1 : s.1 ≤ x ∧ x < s.2 := by
        rcases hx with h4 | h4
        · exact h4
        · exact absurd h4 hs
      refine ⟨s, List.mem_cons_self .., hx1.1, ?_⟩
      rcases Int.lt_or_le s.2 y with h4 | h4
      · have h5 := hh s.2 (by omega) h4
        rw [hasB_cons, Bool.or_eq_true, inS_iff] at h5
        rcases h5 with h5 | h5
        · omega
        · obtain ⟨v, hv, v1, v2⟩ := hasB_iff.1 h5
          have := h2 v hv; omega
      · exact h4
/-- what lies in the bucket of t -/
theorem bkt_iff {n t u : Int} (h : 1 ≤ n) : (fl t n ≤ u ∧ u < fl t n + n) ↔ fl u n = fl t n := by
  rw [fl_has t n u h]; exact eq_comm
noncomputable def outL (n : Int) (a : List S2) : List S2 := ofL ((full a).map (oS n))
noncomputable def inL (n : Int) (a : List S2) : List S2 := ofL ((ofL a).map (iS n))
theorem outL_has {n : Int} {a : List S2} (hz : wrgS n a = 0) (t : Int) : hasB (outL n a) t = true ↔ ∃ u, fl u n = fl t n ∧ hasB a u = true := by
  obtain ⟨hn, hall⟩ := wrgS_mem hz
  unfold outL
  rw [ofL_has, hasB_iff]
  constructor
  · rintro ⟨o, ho, h1, h2⟩
    obtain ⟨s, hs, rfl⟩ := List.mem_map.1 ho
    have hs1 := (List.mem_filter.1 hs).1
    have hlt : s.1 < s.2 := by simpa using (List.mem_filter.1 hs).2
    obtain ⟨b1, b2⟩ := hall s hs1 hlt
    obtain ⟨e1, e2⟩ := (out_val hn.1 ((wrg2_eq hn).2 ⟨b1, b2⟩)).1 hlt
    unfold oS at h1 h2
    rw [e1] at h1
    rw [e2] at h2
    have h3 := (fl_le_iff hn.1).1 h1
    have h4 := (lt_cl_iff hn.1).1 h2
    have hb := fl_bd t n hn.1
    refine ⟨max s.1 (fl t n), (bkt_iff hn.1).1 ⟨by omega, by omega⟩, hasB_iff.2 ⟨s, hs1, by omega, by omega⟩⟩
  · rintro ⟨u, hu, hau⟩
    obtain ⟨s, hs, h1, h2⟩ := hasB_iff.1 hau
    have hlt : s.1 < s.2 := by omega
    obtain ⟨b1, b2⟩ := hall s hs hlt
    obtain ⟨e1, e2⟩ := (out_val hn.1 ((wrg2_eq hn).2 ⟨b1, b2⟩)).1 hlt
    refine ⟨oS n s, List.mem_map.2 ⟨s, List.mem_filter.2 ⟨hs, decide_eq_true hlt⟩, rfl⟩, ?_, ?_⟩
    · show OutF s.1 s.2 n ≤ t
      rw [e1]; refine (fl_le_iff hn.1).2 ?_
      have := (bkt_iff (n := n) (t := t) (u := u) hn.1).2 hu; omega
    · show t < OutT s.1 s.2 n
      rw [e2]; refine (lt_cl_iff hn.1).2 ?_
      have := (bkt_iff (n := n) (t := t) (u := u) hn.1).2 hu; omega
theorem inL_has {n : Int} {a : List S2} (hz : wrgS n a = 0) (t : Int) : hasB (inL n a) t = true ↔ ∀ u, fl u n = fl t n → hasB a u = true := by
  obtain ⟨hn, hall⟩ := wrgS_mem (wrgS_of hz)
  unfold inL
  rw [ofL_has, hasB_iff]
  have hb := fl_bd t n hn.1
  constructor
  · rintro ⟨o, ho, h1, h2⟩ u hu
    obtain ⟨s, hs, rfl⟩ := List.mem_map.1 ho
    have hlt := form_mem (ofL_form a) s hs
    obtain ⟨b1, b2⟩ := hall s hs hlt
    have hv := in_val hn.1 ((wrg2_eq hn).2 ⟨b1, b2⟩)
    unfold iS at h1 h2
    dsimp only at h1 h2
    by_cases hc : s.1 < s.2 ∧ cl s.1 n < fl s.2 n
    · obtain ⟨e1, e2⟩ := hv.1 hc
      rw [e1] at h1
      rw [e2] at h2
      have h3 := (cl_le_iff hn.1).1 h1
      have h4 := (lt_fl_iff hn.1).1 h2
      have h5 := (bkt_iff (n := n) (t := t) (u := u) hn.1).2 hu
      rw [← ofL_has]
      exact hasB_iff.2 ⟨s, hs, by omega, by omega⟩
    · obtain ⟨e1, e2⟩ := hv.2 hc
      rw [e1] at h1
      rw [e2] at h2
      omega
  · intro hh
    obtain ⟨s, hs, h1, h2⟩ := form_stretch (ofL a) (fl t n) (fl t n + n) (ofL_form a) (by omega) (fun u h1 h2 => by
      rw [ofL_has]; exact hh u ((bkt_iff hn.1).1 ⟨h1, h2⟩))
    have hlt := form_mem (ofL_form a) s hs
    obtain ⟨b1, b2⟩ := hall s hs hlt
    have hv := in_val hn.1 ((wrg2_eq hn).2 ⟨b1, b2⟩)
    have h3 := (cl_le_iff (n := n) (t := t) (f := s.1) hn.1).2 h1
    have h4 := (lt_fl_iff (n := n) (t := t) (u := s.2) hn.1).2 h2
    obtain ⟨e1, e2⟩ := hv.1 ⟨hlt, by omega⟩
    refine ⟨iS n s, List.mem_map.2 ⟨s, hs, rfl⟩, ?_, ?_⟩
    · show InF s.1 s.2 n ≤ t
      rw [e1]; exact h3
    · show t < InT s.1 s.2 n
      rw [e2]; exact h4
/-- nothing is wrong with a list whose times are bounded -/
theorem wrgS_ok {n : Int} {l : List S2} (hn : 1 ≤ n ∧ n ≤ 1099511627776) (hb : ∀ t, hasB l t = true → -4611687117939015680 ≤ t ∧ t < 4611687117939015679) : wrgS n l = 0 := by
  unfold wrgS
  rw [if_neg (fun h' => h' hn), if_pos]
  intro s hs
  have hlt : s.1 < s.2 := by simpa using (List.mem_filter.1 hs).2
  have hs1 := (List.mem_filter.1 hs).1
  have t1 := hb s.1 (hasB_iff.2 ⟨s, hs1, Int.le_refl _, hlt⟩)
  have t2 := hb (s.2 - 1) (hasB_iff.2 ⟨s, hs1, by omega, by omega⟩)
  exact wrg_of hn (by unfold bnd; omega) (by unfold bnd; omega)
/-- a time -/
def tim (t : Int) : Prop := -4611686018427387904 ≤ t ∧ t ≤ 4611686018427387903
theorem wrgS_tim {n : Int} {l : List S2} (hn : 1 ≤ n ∧ n ≤ 1099511627776) (h : ∀ s ∈ l, tim s.1 ∧ tim s.2) : wrgS n l = 0 := wrgS_ok hn fun t ht => by
  obtain ⟨s, hs, h1, h2⟩ := hasB_iff.1 ht
  have := h s hs
  unfold tim at this
  omega
theorem outL_bd {n : Int} {l : List S2} (hn : 1 ≤ n ∧ n ≤ 1099511627776) (h : ∀ s ∈ l, tim s.1 ∧ tim s.2) (t : Int) (ht : hasB (outL n l) t = true) : -4611687117939015680 ≤ t ∧ t < 4611687117939015679 := by
  obtain ⟨u, hu, hl⟩ := (outL_has (wrgS_tim hn h) t).1 ht
  obtain ⟨s, hs, h1, h2⟩ := hasB_iff.1 hl
  have h3 := h s hs
  unfold tim at h3
  have b1 := fl_bd u n hn.1
  have b2 := fl_bd t n hn.1
  omega
theorem outL_form (n : Int) (l : List S2) : formL (outL n l) := ofL_form _
theorem inL_form (n : Int) (l : List S2) : formL (inL n l) := ofL_form _
theorem outL_len (n : Int) (l : List S2) : (outL n l).length ≤ l.length := by
  have h1 := ofL_len ((full l).map (oS n))
  have h2 : (full l).length ≤ l.length := full_le l
  rw [List.length_map] at h1
  unfold outL; omega
theorem inL_len (n : Int) (l : List S2) : (inL n l).length ≤ l.length := by
  have h1 := ofL_len ((ofL l).map (iS n))
  have h2 := ofL_len l
  rw [List.length_map] at h1
  unfold inL; omega
theorem wholeR_ok {n : Int} {l : List S2} (h : wrgS n l = 0) : wholeR (oS n) n l = (outL n l, 0) := by unfold wholeR; rw [if_pos h]; rfl
theorem inR_ok {n : Int} {l : List S2} (h : wrgS n l = 0) : inR n l = (inL n l, 0) := by unfold inR; rw [if_pos h]; rfl
theorem aligned {n : Int} {l : List S2} (h : wrgS n l = 0) {t u : Int} (hu : fl u n = fl t n) : hasB (outL n l) u = hasB (outL n l) t := by
  apply bool_ext
  rw [outL_has h, outL_has h, hu]
theorem out_out {n : Int} {l : List S2} (h : wrgS n l = 0) (h' : wrgS n (outL n l) = 0) : outL n (outL n l) = outL n l := form_eq (outL_form _ _) (outL_form _ _) fun t => by
  apply bool_ext
  rw [outL_has h']
  exact ⟨fun ⟨u, hu, hh⟩ => by rw [aligned h hu] at hh; exact hh, fun hh => ⟨t, rfl, hh⟩⟩
theorem in_out {n : Int} {l : List S2} (h : wrgS n l = 0) (h' : wrgS n (outL n l) = 0) : inL n (outL n l) = outL n l := form_eq (inL_form _ _) (outL_form _ _) fun t => by
  apply bool_ext
  rw [inL_has h']
  exact ⟨fun hh => hh t rfl, fun hh u hu => by rw [aligned h hu]; exact hh⟩
end Go.Proofs.Ytiohdacbnigpkaa

/- The walk of spans.In (layer 10). For at most 10^9 spans. -/
import Derived.Test.YtiohdacbnigpkaaSet8
namespace Go.Proofs.Ytiohdacbnigpkaa
open Go.RowKit Go.Maps
set_option linter.unusedVariables false
set_option linter.unusedSimpArgs false

theorem full_form {l : List S2} (h : formL l) : full l = l := List.filter_eq_self.2 fun s hs => decide_eq_true (form_mem h s hs)
theorem wrg_of {n a b : Int} (h : 1 ≤ n ∧ n ≤ 1099511627776) (ha : bnd a) (hb : bnd b) : wrg n [a, b] = 0 := by
  unfold wrg
  rw [if_neg (fun h' => h' h), if_pos]
  intro t ht
  simp only [List.mem_cons, List.not_mem_nil, or_false] at ht
  rcases ht with rfl | rfl
  · exact ha
  · exact hb
/-- the ends of the list in form are bounded, if those of the list are -/
theorem wrgS_of {n : Int} {l : List S2} (h : wrgS n l = 0) : wrgS n (ofL l) = 0 := by
  unfold wrgS at h
  by_cases hn : 1 ≤ n ∧ n ≤ 1099511627776
  case neg => rw [if_pos hn] at h; cases h
  rw [if_neg (fun h' => h' hn)] at h
  by_cases hall : ∀ s ∈ full l, wrg n [s.1, s.2] = 0
  case neg => rw [if_neg hall] at h; cases h
  unfold wrgS
  rw [if_neg (fun h' => h' hn), if_pos]
  have hb : ∀ t, hasB l t = true → -4611687117939015680 ≤ t ∧ t < 4611687117939015679 := by
    intro t ht
    obtain ⟨s, hs, h1, h2⟩ := hasB_iff.1 ht
    have hf : s ∈ full l := List.mem_filter.2 ⟨hs, decide_eq_true (by omega)⟩
    have hz := (wrg_zero (hall s hf)).2.2
    have b1 := hz s.1 (by simp)
    have b2 := hz s.2 (by simp)
    unfold bnd at b1 b2
    omega
  intro s hs
  rw [full_form (ofL_form l)] at hs
  have hlt := form_mem (ofL_form l) s hs
  have t1 := hb s.1 (by rw [← ofL_has]; exact hasB_iff.2 ⟨s, hs, Int.le_refl _, hlt⟩)
  have t2 := hb (s.2 - 1) (by rw [← ofL_has]; exact hasB_iff.2 ⟨s, hs, by omega, by omega⟩)
  exact wrg_of hn (by unfold bnd; omega) (by unfold bnd; omega)
/-- what spans.In answers -/
noncomputable def inR (n : Int) (l : List S2) : List S2 × Int := if wrgS n l = 0 then (ofL ((ofL l).map (iS n)), 0) else ([], wrgS n l)
set_option maxRecDepth 100000 in
theorem sIn_any (B : Nat) (A : Option Addr) (c : Nat) (l : List S2) (n : Int) (w : World) (hr : Rd w B A (scells l)) (hB : B ≤ w.heap.size) (hl : l.length ≤ 1000000000) :
    Calls Try.prog 14 #[.slice A l.length c, .int .i64 n] w (RetSE w (inR n l)) := by
  have O0 := sOut_any B A c l n w hr hB hl
  by_cases hz : wrgS n l = 0
  · have hR1 : wholeR (oS n) n l = (ofL ((full l).map (oS n)), 0) := by unfold wholeR; rw [if_pos hz]
    have hR2 : wholeR (iS n) n (ofL l) = inR n l := by unfold wholeR inR; rw [if_pos hz, if_pos (wrgS_of hz), full_form (ofL_form l)]
    rw [hR1] at O0
    have HO := Lib.hid O0
    have hol := ofL_len l
    have HF := Lib.hid (fun w' (h : Below B w w') (hB' : B ≤ w'.heap.size) => of_any B A c l w' (hr.below h) hB' hl)
    obtain ⟨r, hR⟩ : ∃ r, r = inR n l := ⟨_, rfl⟩
    obtain ⟨x, hx⟩ : ∃ x, x = ofL l := ⟨_, rfl⟩
    obtain ⟨y, hy⟩ : ∃ y, y = ofL ((full l).map (oS n)) := ⟨_, rfl⟩
    rw [← hR] at hR2 ⊢
    rw [← hx] at HF hol hR2
    rw [← hy] at HO
    have HI := Lib.hid (fun (w' : World) (A' : Option Addr) (c' : Nat) (h : Rd w' w'.heap.size A' (scells x)) => wholeI_any w'.heap.size A' c' x n w' h (Nat.le_refl _) (by omega))
    rw [hR2] at HI
    clear O0 hR1 hR2 hR hx hy hz hr
    go_enter Try.func14, Try.ntmps14
    go_wp2_with fail
    refine HO.out.mono ?_; rintro e w1 ⟨A1, c1, rfl, hown1, hb1⟩
    clear hown1
    go_wp2_with fail
    refine (HF.out _ (hb1.mono hB) (by have := hb1.size; omega)).mono ?_; rintro e w2 ⟨A2, c2, rfl, hown2, hb2⟩
    have hb02 : Below w.heap.size w w2 := hb1.trans (hb2.mono hb1.size)
    have hrd := rd_own hown2
    clear hown2 hb1 hb2
    go_wp2_with fail
    refine (HI.out _ _ _ hrd).mono ?_; rintro e w3 ⟨A3, c3, rfl, hown3, hb3⟩
    have hown4 := own_lower hown3 hb02.size
    clear hown3
    go_wp2_with fail
    go_ret2
    exact ⟨A3, c3, rfl, hown4, hb02.trans (hb3.mono hb02.size)⟩
  · have hR1 : wholeR (oS n) n l = ([], wrgS n l) := by unfold wholeR; rw [if_neg hz]
    have hR2 : inR n l = ([], wrgS n l) := by unfold inR; rw [if_neg hz]
    rw [hR1] at O0
    rw [hR2]
    obtain ⟨z, hzz⟩ : ∃ z, z = wrgS n l := ⟨_, rfl⟩
    rw [← hzz] at O0 hz ⊢
    have HO := Lib.hid O0
    have heI : (z != 0) = true := by simp; exact hz
    clear O0 hR1 hR2 hzz hz
    go_enter Try.func14, Try.ntmps14
    go_wp2_with fail
    refine HO.out.mono ?_; rintro e w1 ⟨A1, c1, rfl, hown1, hb1⟩
    clear hown1
    go_wp2_with fail
    go_ret2
    exact retSE_err rfl hb1
end Go.Proofs.Ytiohdacbnigpkaa

/- The walks of spans.Or, spans.Same (layer 10). For at most 10^9 spans. -/
import Derived.Test.YtiohdacbnigpkaaSet6
namespace Go.Proofs.Ytiohdacbnigpkaa
open Go.RowKit Go.Maps
set_option linter.unusedVariables false
set_option linter.unusedSimpArgs false

set_option maxRecDepth 100000 in
theorem or_any (B : Nat) (A A' : Option Addr) (c c' : Nat) (a b : List S2) (w : World) (ha : Rd w B A (scells a)) (hb : Rd w B A' (scells b)) (hB : B ≤ w.heap.size) (hl : a.length + b.length ≤ 1000000000) :
    Calls Try.prog 21 #[.slice A a.length c, .slice A' b.length c'] w (RetSs w (ofL (a ++ b))) := by
  have C0 := fun (T : TypeId) => concat_any (some ⟨w.heap.size, 0, none⟩) 2 [(A, c, a), (A', c', b)] (w.alloc (.cells #[.slice A a.length c, .slice A' b.length c'] T)) (rd_two w _ _ T _ _ rfl (by simp)) (by
    intro s hs
    simp only [List.mem_cons, List.not_mem_nil, or_false] at hs
    rcases hs with rfl | rfl
    · exact (ha.alloc hB _).more (by simp; omega)
    · exact (hb.alloc hB _).more (by simp; omega)) (by simp) (by simp [bsS]; omega)
  have he : bsS [(A, c, a), (A', c', b)] = a ++ b := by simp [bsS]
  rw [he] at C0
  change ∀ T, Calls Try.prog 44 #[.slice (some ⟨w.heap.size, 0, none⟩) 2 2] _ _ at C0
  have hlen : (a ++ b).length ≤ 1000000000 := by rw [List.length_append]; exact hl
  obtain ⟨l, hL⟩ : ∃ l, l = a ++ b := ⟨_, rfl⟩
  rw [← hL] at C0 hlen ⊢
  have HC := Lib.hid C0
  clear C0 he hL ha hb
  go_enter Try.func21, Try.ntmps21
  go_wp2_with fail
  refine (HC.out _).mono ?_; rintro e w1 ⟨A1, c1, rfl, hown1, hb1⟩
  have hb01 : Below w.heap.size w w1 := ((Below.refl _ w).alloc (Nat.le_refl _) _).trans (hb1.mono (by simp))
  have HO := Lib.hid (of_any w1.heap.size A1 c1 l w1 (rd_own hown1) (Nat.le_refl _) hlen)
  clear hown1 hb1
  go_wp2_with fail
  refine HO.out.mono ?_; rintro e w2 ⟨A2, c2, rfl, hown2, hb2⟩
  have hown3 := own_lower hown2 hb01.size
  clear hown2
  go_wp2_with fail
  go_ret
  exact retSs_of hown3 (hb01.trans (hb2.mono hb01.size))
set_option maxRecDepth 100000 in
theorem same_any (B : Nat) (A A' : Option Addr) (c c' : Nat) (a b : List S2) (w : World) (ha : Rd w B A (scells a)) (hb : Rd w B A' (scells b)) (hB : B ≤ w.heap.size) (hal : a.length ≤ 1000000000) (hbl : b.length ≤ 1000000000) :
    Calls Try.prog 31 #[.slice A a.length c, .slice A' b.length c'] w fun e w' => e = .returned (.bool (decide (ofL a = ofL b))) ∧ Below w.heap.size w w' := by
  have HA := Lib.hid (of_any B A c a w ha hB hal)
  have HB := Lib.hid (fun w' (h : Below B w w') (hB' : B ≤ w'.heap.size) => of_any B A' c' b w' (hb.below h) hB' hbl)
  have hla := ofL_len a
  obtain ⟨x, hx⟩ : ∃ x, x = ofL a := ⟨_, rfl⟩
  obtain ⟨y, hy⟩ : ∃ y, y = ofL b := ⟨_, rfl⟩
  rw [← hx] at HA hla ⊢
  rw [← hy] at HB ⊢
  clear hx hy ha hb
  go_enter Try.func31, Try.ntmps31
  go_wp2_with fail
  refine HA.out.mono ?_; rintro e w1 ⟨A1, c1, rfl, hown1, hb1⟩
  go_wp2_with fail
  refine (HB.out _ (hb1.mono hB) (by have := hb1.size; omega)).mono ?_; rintro e w2 ⟨A2, c2, rfl, hown2, hb2⟩
  have hown1' := own_bel hown1 hb2
  have HE := Lib.hid (sEqual_any w2.heap.size A1 A2 c1 c2 x y w2 (rd_own hown1') (rd_own hown2) (Nat.le_refl _) (by unfold maxLen; omega))
  have hb02 : Below w.heap.size w w2 := hb1.trans (hb2.mono hb1.size)
  clear hown1 hown1' hown2 hb1 hb2
  go_wp2_with fail
  refine HE.out.mono ?_; rintro e w3 ⟨rfl, hb3⟩
  go_wp2_with fail
  go_ret
  exact ⟨rfl, hb02.trans (hb3.mono hb02.size)⟩
end Go.Proofs.Ytiohdacbnigpkaa

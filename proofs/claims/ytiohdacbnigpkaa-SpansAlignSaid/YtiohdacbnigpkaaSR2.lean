/- The walk of the reference's put (layer 10): a number more, in order. For at most 10^9 numbers of the call's own. -/
import Derived.Test.YtiohdacbnigpkaaSR1
namespace Go.Proofs.Ytiohdacbnigpkaa
open Go.RowKit Go.Maps
set_option linter.unusedVariables false
set_option linter.unusedSimpArgs false

def ints (l : List Int) : List Value := l.map (.int .i64)
theorem ints_length (l : List Int) : (ints l).length = l.length := List.length_map _
theorem ints_append (a b : List Int) : ints (a ++ b) = ints a ++ ints b := List.map_append
theorem ints_one (l : List Int) : ∀ u ∈ ints l, u.oneCell' = true := by
  intro u hu
  obtain ⟨z, _, rfl⟩ := List.mem_map.1 hu
  rfl
theorem Try.infoN : (Try.prog.info? 2).map (fun i => (i.zero, i.size, i.bytes)) = some (some (.int .i64 0), 1, 8) := by kernel_rfl
theorem El_n : El Try.prog 74 2 1 8 := el_of Try.underlying74 Try.infoN rfl (by decide)
theorem rd_int {w : World} {B : Nat} {A : Option Addr} {l : List Int} (h : Rd w B A (ints l)) {i : Nat} {v : Int} (hi : l[i]? = some v) : ∃ b o, A = some ⟨b, o, none⟩ ∧ b < B ∧ w.cell? ⟨b, o + i, none⟩ = some (.int .i64 v) := by
  have hlt : i < l.length := (List.getElem?_eq_some_iff.1 hi).1
  obtain ⟨b, o, hA, hb, hc⟩ := h.at (k := i) (by rw [ints_length]; omega)
  exact ⟨b, o, hA, hb, hc _ _ (by unfold ints; rw [List.getElem?_map, hi]; rfl)⟩
theorem from_ints (A : Option Addr) (n c u : Nat) (hu : u ≤ n) (w : World) (z : Int) (hz : z = u) :
    (Instr.sliceAt 74 (.slice A n c) (some (.int .i64 z)) none none).run Try.prog w = .ok (.slice (if c = u then A else A.map (·.add u)) (n - u) (c - u)) w := by
  obtain ⟨i0, hi, hz0, hz1, hz2⟩ := info_parts Try.infoN
  subst hz
  simp [Instr.sliceAt, Instr.slice, run_underlying Try.underlying74, Instr.sliceBounds, run_sliceBound, sizeOf, typeInfo, hi, hz1, (by omega : (0 : Int) ≤ (u : Int)), (by omega : (u : Int) ≤ (n : Int))]
theorem upto_ints {A : Option Addr} {n c : Nat} (m : Nat) (hm : m ≤ n) (hc : n ≤ c) (w' : World) (z : Int) (hz : z = m) :
    (Instr.sliceAt 74 (.slice A n c) none (some (.int .i64 z)) none).run Try.prog w' = .ok (.slice A m c) w' := by
  obtain ⟨i0, hi, hz0, hz1, hz2⟩ := info_parts Try.infoN
  subst hz
  simp [Instr.sliceAt, Instr.slice, run_underlying Try.underlying74, Instr.sliceBounds, run_sliceBound, sizeOf, typeInfo, hi, hz1, (by omega : (0 : Int) ≤ (m : Int)), (by omega : (m : Int) ≤ (c : Int))]
  intro _
  cases A <;> simp [Addr.add]
theorem own_short {w : World} {base m n c : Nat} {A : Option Addr} {e : TypeId} {xs : List Value} (h : w.ownsRow base e 1 (.slice A n c) n xs) (hm : m ≤ n) : w.ownsRow base e 1 (.slice A m c) m (xs.take m) := by
  rcases h.2 with ⟨hv, hz⟩ | ⟨g, cap, cur, hv, _⟩
  · simp only [Value.slice.injEq] at hv
    obtain ⟨rfl, _, rfl⟩ := hv
    have : m = 0 := by omega
    subst this
    exact World.ownsRow_nil _ _ _ _
  · simp only [Value.slice.injEq, true_and] at hv
    obtain ⟨rfl, rfl⟩ := hv
    have := own_less h hm
    rwa [Nat.mul_one] at this
theorem own_grown {w w' : World} {base n sz : Nat} {e : TypeId} {v : Value} {xs : List Value} {r : Option Nat} (h : w.ownsRow base e sz v n xs) (hg : w.grownBy w' r) (hr : ∀ g, v.ownBlock = some g → r ≠ some g) : w'.ownsRow base e sz v n xs := by
  obtain ⟨h1, h2⟩ := h
  refine ⟨h1, ?_⟩
  rcases h2 with h2 | ⟨g, cap, cur, rfl, hb, hh, rest⟩
  · exact .inl h2
  · exact .inr ⟨g, cap, cur, rfl, hb, (hg.block g (Array.getElem?_eq_some_iff.1 hh).1 (fun e => hr g rfl e.symm)).trans hh, rest⟩
set_option maxHeartbeats 2000000 in
set_option maxRecDepth 100000 in
theorem rput_any (base : Nat) (A : Option Addr) (c : Nat) (l : List Int) (n : Int) (w : World) (hown : w.ownsRow base 2 1 (.slice A l.length c) l.length (ints l)) (hbase : base ≤ w.heap.size) (hl : l.length ≤ 2000000000) :
    Calls Try.prog 83 #[.slice A l.length c, .int .i64 n] w fun e w' => ∃ A' c', e = .returned (.slice A' (putI l n).length c') ∧ w'.ownsRow base 2 1 (.slice A' (putI l n).length c') (putI l n).length (ints (putI l n)) ∧ Below base w w' := by
  have hr := rd_own hown
  have hlc := own_le hown
  obtain ⟨m, hm⟩ : ∃ m, m = l.length := ⟨_, rfl⟩
  have HOWN := Lib.hid hown
  rw [← hm] at HOWN hl hlc ⊢
  have HM := Lib.hid hm
  clear hm hown
  go_enter Try.func83, Try.ntmps83
  go_wp2
  go_loopw [5] (fun v5 wr => ∃ k : Nat, k ≤ m ∧ v5 = .int .i64 k ∧ (∀ x ∈ l.take k, x < n) ∧ w = wr) (fun v5 _ => m - (intOf v5).toNat)
  case atStart => exact ⟨0, by omega, rfl, by simp, rfl⟩
  case round =>
    obtain ⟨k, hk, rfl, hlow, rfl⟩ := hrel
    have HLOW := Lib.hid hlow
    clear hlow
    by_cases hgo : ∃ x, l[k]? = some x ∧ x < n
    · obtain ⟨x, hx, hxn⟩ := hgo
      have hkm : k < l.length := (List.getElem?_eq_some_iff.1 hx).1
      have hkI : (k : Int) < (m : Int) := by have := HM.out; omega
      obtain ⟨gb, go, rfl, hgb, q0⟩ := rd_int hr hx
      have HX := Lib.hid hx
      clear hx hkm
      go_wp2_with fail
      go_roundw
      case rel =>
        refine ⟨k + 1, by omega, by go_num, fun y hy => ?_, by trivial⟩
        rw [List.take_add_one, HX.out] at hy
        rcases List.mem_append.1 hy with h | h
        · exact HLOW.out y h
        · simp at h; rw [h]; exact hxn
      case measure => simp [intOf]; omega
    have hat := putI_at n l k (by have := HM.out; omega) HLOW.out (fun x hx hxn => hgo ⟨x, hx, hxn⟩)
    have hkl : k ≤ l.length := by have := HM.out; omega
    by_cases heq : l[k]? = some n
    · rw [if_pos heq] at hat
      have hkm : k < l.length := (List.getElem?_eq_some_iff.1 heq).1
      have hkI : (k : Int) < (m : Int) := by have := HM.out; omega
      obtain ⟨gb, go, rfl, hgb, q0⟩ := rd_int hr heq
      have HAT := Lib.hid hat
      clear heq hkm hat hgo
      go_wp2_with fail
      go_ret
      exact ⟨_, c, by rw [HAT.out, ← HM.out]; rfl, by rw [HAT.out, ← HM.out]; exact HOWN.out, Below.refl _ _⟩
    rw [if_neg heq] at hat
    have hsl := fun w' => from_ints A m c k hk w' (k : Int) rfl
    have hsu := fun w' => upto_ints (A := A) k hk hlc w' (k : Int) rfl
    have hcut : Rd w w.heap.size (if c = k then A else A.map (·.add k)) (ints (l.drop k)) := by
      have := hr.cut k (c = k) (fun h => by rw [ints_length, ← HM.out]; omega)
      unfold ints at this ⊢
      rwa [← List.map_drop] at this
    have hcl : (ints (l.drop k)).length = (m - k) * 1 := by rw [ints_length, List.length_drop, ← HM.out, Nat.mul_one]
    have HAT := Lib.hid hat
    have hgw : ∀ g, (Value.slice A k c).ownBlock = some g → g < w.heap.size := fun g h => (HOWN.out.lt g (by revert h; cases A <;> exact id)).2
    rcases hx : l[k]? with _ | x
    · have hkm : ¬ (k : Int) < (m : Int) := by
        have := List.getElem?_eq_none_iff.1 hx
        have := HM.out; omega
      clear hx heq hat hgo
      go_wp2_with (at_builtin; first
        | (refine wpList_app El_n rfl _ _ rfl (World.ownsRow_nil w w.heap.size 2 1) rfl rfl hcut (by first | exact hcl | (rw [hcl]; omega)) (ints_one _) (by unfold maxLen; omega) (by omega) (Nat.le_refl _) ?_; intro v1 w1 hown1 hg1 _; rw [Nat.zero_add, List.nil_append] at hown1; have hb1 := own_below (World.ownsRow_nil w w.heap.size 2 1) hg1 (Nat.le_refl _); have hl1 := own_short (own_bel HOWN.out hb1) hk; obtain ⟨A1, c1, rfl, hc1⟩ := own_form hown1)
        | (refine wpList_app El_n rfl _ _ rfl (hl1.alloc _) rfl rfl (by exact rd_one _ _ _ _ _ rfl (Nat.lt_add_one _)) rfl (by intro u hu; simp at hu; subst hu; rfl) (by unfold maxLen; omega) (by omega) (by have := hb1.size; simp; omega) ?_; intro v2 w2 hown2 hg2 _; have hb2 : Below base w w2 := ((hb1.mono hbase).alloc (by have := hb1.size; omega) _).trans (own_below (hl1.alloc _) hg2 (by have := hb1.size; simp; omega)); have hrest := own_grown (hown1.alloc _) hg2 (fun g hg h => by have h1 := (hown1.lt g hg).1; have h2 := hgw g h; omega))
        | (refine wpList_app El_n rfl _ _ rfl hown2 rfl rfl (rd_own hrest) (by first | exact hcl | (rw [hcl]; omega)) (ints_one _) (by unfold maxLen; omega) (by omega) (Nat.le_trans hbase hb2.size) ?_; intro v3 w3 hown3 hg3 _; have hb3 : Below base w w3 := hb2.trans (own_below hown2 hg3 (Nat.le_trans hbase hb2.size))))
      all_goals
        go_ret
        have hpl : (putI l n).length = k + 1 + (m - k) := by rw [HAT.out, List.length_append, List.length_take, List.length_cons, List.length_drop, ← HM.out]; omega
        have hpc : ints (putI l n) = (ints l).take k ++ [.int .i64 n] ++ ints (l.drop k) := by rw [HAT.out]; unfold ints; simp
        obtain ⟨A9, c9, rfl, _⟩ := own_form hown3
        exact ⟨A9, c9, by rw [hpl]; first | rfl | (rw [show m - k = 0 by omega]; rfl), by rw [hpl, hpc]; first | exact hown3 | (rw [show m - k = 0 by omega]; exact hown3), hb3⟩
    · have hkI : (k : Int) < (m : Int) := by
        have := (List.getElem?_eq_some_iff.1 hx).1
        have := HM.out; omega
      have hxn : ¬ x < n := fun h => hgo ⟨x, hx, h⟩
      have hxe : (x == n) = false := by
        rw [beq_eq_false_iff_ne]; rintro rfl; exact heq hx
      obtain ⟨gb, go, rfl, hgb, q0⟩ := rd_int hr hx
      have hcut0 := hcut
      rw [if_neg (by omega)] at hcut0
      have hadd : (some (⟨gb, go, none⟩ : Addr)).map (·.add k) = some ⟨gb, go + k, none⟩ := by
        rw [Option.map_some]
        by_cases h0 : k = 0
        · subst h0; simp [Addr.add]
        · simp [Addr.add, h0]
      rw [hadd] at hcut0
      have hck : ¬ c = k := by omega
      clear hcut hadd
      have hcut := hcut0
      clear hcut0
      clear hx heq hat hgo
      go_wp2_with (at_builtin; first
        | (refine wpList_app El_n rfl _ _ rfl (World.ownsRow_nil w w.heap.size 2 1) rfl rfl hcut (by first | exact hcl | (rw [hcl]; omega)) (ints_one _) (by unfold maxLen; omega) (by omega) (Nat.le_refl _) ?_; intro v1 w1 hown1 hg1 _; rw [Nat.zero_add, List.nil_append] at hown1; have hb1 := own_below (World.ownsRow_nil w w.heap.size 2 1) hg1 (Nat.le_refl _); have hl1 := own_short (own_bel HOWN.out hb1) hk; obtain ⟨A1, c1, rfl, hc1⟩ := own_form hown1)
        | (refine wpList_app El_n rfl _ _ rfl (hl1.alloc _) rfl rfl (by exact rd_one _ _ _ _ _ rfl (Nat.lt_add_one _)) rfl (by intro u hu; simp at hu; subst hu; rfl) (by unfold maxLen; omega) (by omega) (by have := hb1.size; simp; omega) ?_; intro v2 w2 hown2 hg2 _; have hb2 : Below base w w2 := ((hb1.mono hbase).alloc (by have := hb1.size; omega) _).trans (own_below (hl1.alloc _) hg2 (by have := hb1.size; simp; omega)); have hrest := own_grown (hown1.alloc _) hg2 (fun g hg h => by have h1 := (hown1.lt g hg).1; have h2 := hgw g h; omega))
        | (refine wpList_app El_n rfl _ _ rfl hown2 rfl rfl (rd_own hrest) (by first | exact hcl | (rw [hcl]; omega)) (ints_one _) (by unfold maxLen; omega) (by omega) (Nat.le_trans hbase hb2.size) ?_; intro v3 w3 hown3 hg3 _; have hb3 : Below base w w3 := hb2.trans (own_below hown2 hg3 (Nat.le_trans hbase hb2.size))))
      go_ret
      have hpl : (putI l n).length = k + 1 + (m - k) := by rw [HAT.out, List.length_append, List.length_take, List.length_cons, List.length_drop, ← HM.out]; omega
      have hpc : ints (putI l n) = (ints l).take k ++ [.int .i64 n] ++ ints (l.drop k) := by rw [HAT.out]; unfold ints; simp
      obtain ⟨A9, c9, rfl, _⟩ := own_form hown3
      exact ⟨A9, c9, by rw [hpl]; first | rfl | (rw [show m - k = 0 by omega]; rfl), by rw [hpl, hpc]; first | exact hown3 | (rw [show m - k = 0 by omega]; exact hown3), hb3⟩
end Go.Proofs.Ytiohdacbnigpkaa

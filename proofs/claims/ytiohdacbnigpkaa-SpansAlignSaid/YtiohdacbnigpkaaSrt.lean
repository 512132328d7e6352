/- slices.SortFunc over spans of the call's own, by where they begin (layer 10): by the library's contract. For at most 10^9 spans. -/
import Derived.Test.YtiohdacbnigpkaaSet3
import Derived.Test.YtiohdacbnigpkaaSrtLay
import Derived.Shelf.SlSortCmp.NoneTotal
namespace Go.Proofs.Ytiohdacbnigpkaa
open Go.Shelf Go.RowKit Go.Lib Go.Sort
set_option linter.unusedVariables false
set_option linter.unusedSimpArgs false

theorem isNaN_any (x : Int) (w : World) : Calls Try.prog 66 #[.int .i64 x] w fun e w' => e = .returned (.bool false) ∧ w' = w := by
  go_enter Try.func66, Try.ntmps66
  go_wp2
  go_ret
  exact ⟨by simp, rfl⟩
theorem compare_any (x y : Int) (w : World) : Calls Try.prog 49 #[.int .i64 x, .int .i64 y] w fun e w' => e = .returned (.int .i64 (Lib.compareInt x y)) ∧ w' = w := by
  have hx := fun w => isNaN_any x w
  have hy := fun w => isNaN_any y w
  unfold Lib.compareInt
  by_cases h1 : x < y
  · rw [if_pos h1]
    go_enter Try.func49, Try.ntmps49
    go_wp2_with fail
    refine (hx _).mono ?_; rintro e w1 ⟨rfl, rfl⟩
    go_wp2_with fail
    refine (hy _).mono ?_; rintro e w1 ⟨rfl, rfl⟩
    go_wp2_with fail
    go_ret
    exact ⟨rfl, rfl⟩
  · rw [if_neg h1]
    by_cases h2 : x > y
    · rw [if_pos h2]
      go_enter Try.func49, Try.ntmps49
      go_wp2_with fail
      refine (hx _).mono ?_; rintro e w1 ⟨rfl, rfl⟩
      go_wp2_with fail
      refine (hy _).mono ?_; rintro e w1 ⟨rfl, rfl⟩
      go_wp2_with fail
      go_ret
      exact ⟨rfl, rfl⟩
    · rw [if_neg h2]
      go_enter Try.func49, Try.ntmps49
      go_wp2_with fail
      refine (hx _).mono ?_; rintro e w1 ⟨rfl, rfl⟩
      go_wp2_with fail
      refine (hy _).mono ?_; rintro e w1 ⟨rfl, rfl⟩
      go_wp2_with fail
      go_ret
      exact ⟨rfl, rfl⟩
theorem of1_any (x y : S2) (W : World) : Calls Try.prog 48 #[.agg #[.int .i64 x.1, .int .i64 x.2], .agg #[.int .i64 y.1, .int .i64 y.2]] W fun e w' => e = .returned (.int .i64 (Lib.compareInt x.1 y.1)) ∧ ∃ q os', w' = grow (W.drewN q) os' := by
  have hcon := fun W' => compare_any x.1 y.1 W'
  generalize Lib.compareInt x.1 y.1 = r at hcon ⊢
  go_enter Try.func48, Try.ntmps48
  go_wp2_with fail
  refine (hcon _).mono ?_; rintro e w' ⟨rfl, rfl⟩
  go_wp2_with fail
  go_ret
  exact ⟨rfl, 0, _, by rw [alloc_eq_grow, alloc_eq_grow, grow_grow]; rfl⟩
theorem ltFrom (x y : S2) : ltOf (fun x y : S2 => Lib.compareInt x.1 y.1) x y = decide (x.1 < y.1) := by
  unfold ltOf Lib.compareInt
  by_cases h1 : x.1 < y.1
  · simp [h1]
  · by_cases h2 : y.1 < x.1 <;> simp [h1, h2]
theorem swoFrom : SWO (ltOf fun x y : S2 => Lib.compareInt x.1 y.1) where
  irrefl x := by rw [ltFrom]; simp
  trans x y z h1 h2 := by rw [ltFrom] at *; simp at *; omega
  ntrans x y z h1 h2 := by rw [ltFrom] at *; simp at *; omega
theorem flat_get (d : Array S2) (j : Nat) (h : j < d.size * 2) : (scells d.toList)[j]? = some (flatK sc 2 d)[j]! := by
  rw [get_flatK _ _ _ _ h, scells_get]
  have h1 : j / 2 < d.size := by omega
  rw [Array.getElem?_toList, Array.getElem?_eq_getElem h1, getElem!_pos d _ h1]
  have h3 : j % 2 < 2 := Nat.mod_lt _ (by omega)
  rcases (show j % 2 = 0 ∨ j % 2 = 1 by omega) with e | e <;> rw [e] <;> rfl
theorem own_holds {w : World} {base g n cap : Nat} {l : List S2} (h : w.ownsRow base 27 2 (.slice (some ⟨g, 0, none⟩) n cap) n (scells l)) : HoldsK sc 2 w g 0 l.toArray := by
  intro j hj
  rw [size_flatK] at hj
  have hl : l.length * 2 = n * 2 := by have := h.1; rw [scells_length] at this; exact this
  have h1 := flat_get l.toArray j hj
  have hj' : j < l.length * 2 := by simpa using hj
  refine ⟨?_, ?_⟩
  · have h2 := h.cells (g := g) rfl j _ h1
    rw [Nat.zero_add]
    by_cases h0 : j = 0
    · subst h0; simpa [Addr.add] using h2
    · simpa [Addr.add, h0] using h2
  · rw [Nat.zero_add]; exact h.frozenAt j
theorem sort_world {w : World} {base g n cap : Nat} {l : List S2} (h : w.ownsRow base 27 2 (.slice (some ⟨g, 0, none⟩) n cap) n (scells l)) (hbase : base ≤ w.heap.size) (m : Nat) (d : Array S2) (os : Array Obj) (hd : d.size = n) :
    (sortWorldK sc 2 w g 0 m d os).ownsRow base 27 2 (.slice (some ⟨g, 0, none⟩) n cap) n (scells d.toList) ∧ Below base w (sortWorldK sc 2 w g 0 m d os) := by
  obtain ⟨h1, h2⟩ := h
  rcases h2 with ⟨h2, _⟩ | ⟨g', cap', cur, hv, hbg, hh, hnc, hcm, hcs, ht⟩
  · cases h2
  simp only [Value.slice.injEq, Option.some.injEq, Addr.mk.injEq, and_true, true_and] at hv
  obtain ⟨rfl, rfl⟩ := hv
  have hg : g < w.heap.size := (Array.getElem?_eq_some_iff.1 hh).1
  have hsz : (putRowK sc 2 (Sort.ahead w m) g 0 d).heap.size = w.heap.size := by unfold putRowK; rw [size_putRow]; rfl
  have hheap : ∀ k, k < w.heap.size → (sortWorldK sc 2 w g 0 m d os).heap[k]? = (putRowK sc 2 (Sort.ahead w m) g 0 d).heap[k]? := fun k hk => by
    show ((putRowK sc 2 (Sort.ahead w m) g 0 d).heap ++ os)[k]? = _
    rw [Array.getElem?_append_left (by rw [hsz]; exact hk)]
  have hmod : ∀ k, (putRowK sc 2 (Sort.ahead w m) g 0 d).heap[k]? = if g = k then (w.heap[k]?).map (onCells (putCells id 0 (flatK sc 2 d))) else w.heap[k]? := fun k => by
    show (w.heap.modify g _)[k]? = _
    rw [Array.getElem?_modify]
  refine ⟨⟨?_, .inr ⟨g, cap, putCells id 0 (flatK sc 2 d) cur, rfl, hbg, ?_, hnc, hcm, ?_, ?_⟩⟩, ⟨rfl, rfl, rfl, ?_, fun k hk => ?_⟩⟩
  · rw [scells_length, Array.length_toList, hd]
  · rw [hheap g hg, hmod, if_pos rfl, hh]; rfl
  · rw [← hcs]; simp [putCells]
  · apply List.ext_getElem?
    intro j
    rw [List.getElem?_take]
    by_cases hj : j < n * 2
    · rw [if_pos hj, flat_get d j (by rw [hd]; exact hj), Array.getElem?_toList]
      have hjc : j < cur.size := by rw [hcs]; have := Nat.mul_le_mul_right 2 hnc; omega
      simp only [putCells, Array.getElem?_mapIdx, Array.getElem?_eq_getElem hjc, Option.map_some]
      rw [if_pos ⟨by omega, by rw [size_flatK, hd]; omega⟩, Nat.sub_zero]; rfl
    · rw [if_neg hj, List.getElem?_eq_none (by rw [scells_length, Array.length_toList, hd]; omega)]
  · show w.heap.size ≤ ((putRowK sc 2 (Sort.ahead w m) g 0 d).heap ++ os).size
    rw [Array.size_append, hsz]; omega
  · rw [hheap k (by omega), hmod, if_neg (by omega)]
theorem sorted_idx : ∀ l : List S2, (∀ (i j : Nat) (x y : S2), l[i]? = some x → l[j]? = some y → i < j → x.1 ≤ y.1) → sortedL l
  | [], _ => trivial
  | s :: l, h => ⟨fun u hu => by
      obtain ⟨j, hj⟩ := List.getElem?_of_mem hu
      exact h 0 (j + 1) s u rfl (by rw [List.getElem?_cons_succ]; exact hj) (by omega), sorted_idx l fun i j x y hx hy hij => h (i + 1) (j + 1) x y (by rw [List.getElem?_cons_succ]; exact hx) (by rw [List.getElem?_cons_succ]; exact hy) (by omega)⟩
theorem isAggSpan : ∀ w, (isAgg (srtLay_ren.t 24)).run Try.prog w = .ok true w := fun w => Try.isAgg27 w
theorem sizeSpan : ∀ w, (Go.sizeOf (srtLay_ren.t 24)).run Try.prog w = .ok 2 w := fun w => Try.sizeOf27 w
set_option maxHeartbeats 1000000 in
theorem sort_any (base : Nat) (A : Option Addr) (c : Nat) (l : List S2) (w : World) (hown : w.ownsRow base 27 2 (.slice A l.length c) l.length (scells l)) (hbase : base ≤ w.heap.size) (hl : l.length ≤ 1000000000) :
    Calls Try.prog 47 #[.slice A l.length c, .func (.func 48) #[] #[]] w fun e w' => e = .returned (.tuple #[]) ∧ ∃ l' : List S2, l'.Perm l ∧ sortedL l' ∧ w'.ownsRow base 27 2 (.slice A l.length c) l.length (scells l') ∧ Below base w w' := by
  rcases hown.2 with ⟨hv, hz⟩ | ⟨g, cap, cur, hv, hbg, hh, _⟩
  · have hl0 : l = [] := by
      have := hown.1; rw [hz, scells_length] at this
      exact List.eq_nil_of_length_eq_zero (by omega)
    subst hl0
    exact (AnyF.slices_SortFunc_none srtLay A c (.func (.func 48) #[] #[]) w).mono fun e w' ⟨h1, h2⟩ => ⟨h1, [], List.Perm.refl _, trivial, by rw [h2]; exact hown, by rw [h2]; exact Below.refl _ _⟩
  · simp only [Value.slice.injEq, true_and] at hv
    obtain ⟨rfl, rfl⟩ := hv
    have eg : ∀ args w, (callFunc 48 args).run Try.prog w = .ok (.enter 48 args) w := enters_of Try.func48 (by kernel_rfl) rfl
    have hg : g < w.heap.size := (Array.getElem?_eq_some_iff.1 hh).1
    have hcon := AnyQ.slices_SortFunc srtLay 2 isAggSpan sizeSpan sc (fun _ => rfl) (fun x v hv => sc_one x v hv) (fun x y => Lib.compareInt x.1 y.1) swoFrom 48 #[] g 0 c l.toArray w eg (fun _ _ _ _ x y => of1_any x y _) (own_holds hown) hg (by simp; omega)
    change Calls Try.prog 47 #[.slice (some ⟨g, 0, none⟩) l.length c, _] w _ at hcon
    refine hcon.mono ?_
    rintro e w' ⟨he, d', n, os, hp, hs, hw⟩
    have hds : d'.size = l.length := by have := hp.1; simpa using this
    obtain ⟨o1, o2⟩ := sort_world hown hbase n d' os hds
    refine ⟨he, d'.toList, ?_, sorted_idx _ fun i j x y hx hy hij => ?_, by rw [hw]; exact o1, by rw [hw]; exact o2⟩
    · have h := hp.2.2
      have e1 : (d'.extract 0 l.toArray.size).toList = d'.toList := by rw [show l.toArray.size = d'.size by simp [hds], Array.extract_size]
      have e2 : (l.toArray.extract 0 l.toArray.size).toList = l := by rw [Array.extract_size]
      rw [e1, e2] at h
      exact h
    · have hi : i < d'.size := by have := (List.getElem?_eq_some_iff.1 hx).1; simpa using this
      have hj : j < d'.size := by have := (List.getElem?_eq_some_iff.1 hy).1; simpa using this
      have h := hs i j (Nat.zero_le _) hij (by simp; omega)
      rw [ltFrom, getElem!_pos d' i hi, getElem!_pos d' j hj] at h
      rw [Array.getElem?_toList, Array.getElem?_eq_getElem hi] at hx
      rw [Array.getElem?_toList, Array.getElem?_eq_getElem hj] at hy
      injection hx with hx; injection hy with hy
      rw [hx, hy] at h
      simp at h; exact h
end Go.Proofs.Ytiohdacbnigpkaa

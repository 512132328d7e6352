/- Joined texts: see the remark ahead of each part. No condition but those that the parts name. -/
import Derived.Test.YthkpgjcnnfdibaaSgh
/-! Slices of slices in memory, their blocks named (layer 7): what is kept while another one is written. No condition. -/
namespace Go.Proofs.Ythkpgjcnnfdibaa
open Go.RowKit Go.Maps
set_option linter.unusedVariables false

section
variable {β : Type} {f : β → List Value} {n : β → Nat} {To Ti : TypeId} {sz : Nat}
/-- owned, the slices named -/
def OwnS (f : β → List Value) (n : β → Nat) (To Ti : TypeId) (sz : Nat) (w : World) (base : Nat) (v : Value) (bs : List β) (ss : List (Option Addr × Nat × Nat)) : Prop :=
  ss.length = bs.length ∧ w.ownsRow base To 1 v ss.length (ss.map sl3) ∧
    (∀ (i : Nat) (s : Option Addr × Nat × Nat) (b : β), ss[i]? = some s → bs[i]? = some b → s.2.1 = n b ∧ w.ownsRow base Ti sz (sl3 s) (n b) (f b)) ∧
    ∀ (i j : Nat) (s u : Option Addr × Nat × Nat), i ≠ j → ss[i]? = some s → ss[j]? = some u → Ap (sl3 s) (sl3 u)
theorem ownS_of {w : World} {base : Nat} {v : Value} {bs : List β} (h : OwnN f n To Ti sz w base v bs) : ∃ ss, OwnS f n To Ti sz w base v bs ss := h
theorem OwnS.own {w : World} {base : Nat} {v : Value} {bs : List β} {ss : List (Option Addr × Nat × Nat)} (h : OwnS f n To Ti sz w base v bs ss) : OwnN f n To Ti sz w base v bs := ⟨ss, h⟩
/-- its blocks -/
def Blks (v : Value) (ss : List (Option Addr × Nat × Nat)) (k : Nat) : Prop := v.ownBlock = some k ∨ ∃ s ∈ ss, (sl3 s).ownBlock = some k
theorem OwnS.lt {w : World} {base : Nat} {v : Value} {bs : List β} {ss : List (Option Addr × Nat × Nat)} (h : OwnS f n To Ti sz w base v bs ss) {k : Nat} (hk : Blks v ss k) : base ≤ k ∧ k < w.heap.size := by
  obtain ⟨h1, h2, h3, h4⟩ := h
  rcases hk with hk | ⟨s, hs, hk⟩
  · exact h2.lt k hk
  · obtain ⟨i, hi⟩ := List.getElem?_of_mem hs
    obtain ⟨b, hb⟩ : ∃ b, bs[i]? = some b := ⟨_, List.getElem?_eq_getElem (by rw [← h1]; exact (List.getElem?_eq_some_iff.1 hi).1)⟩
    exact (h3 i s b hi hb).2.lt k hk
/-- kept: the blocks of F -/
def KeepF (F : Nat → Prop) (w w' : World) : Prop := w.heap.size ≤ w'.heap.size ∧ ∀ k, F k → k < w.heap.size → w'.heap[k]? = w.heap[k]?
theorem KeepF.refl (F : Nat → Prop) (w : World) : KeepF F w w := ⟨Nat.le_refl _, fun _ _ _ => rfl⟩
theorem KeepF.drew {F : Nat → Prop} {w w' : World} (h : KeepF F w w') : KeepF F w w'.drew := h
theorem KeepF.alloc {F : Nat → Prop} {w w' : World} (h : KeepF F w w') (o : Obj) : KeepF F w (w'.alloc o) :=
  ⟨by have := h.1; simp; omega, fun k h1 h2 => (Below.heap_alloc _ _ _ (by have := h.1; omega)).trans (h.2 k h1 h2)⟩
theorem KeepF.grown {F : Nat → Prop} {w w' w'' : World} {r : Option Nat} (h : KeepF F w w') (hg : w'.grownBy w'' r) (hr : ∀ k, F k → k < w.heap.size → r ≠ some k) : KeepF F w w'' :=
  ⟨Nat.le_trans h.1 hg.size, fun k h1 h2 => (hg.block k (by have := h.1; omega) (fun e => hr k h1 h2 e.symm)).trans (h.2 k h1 h2)⟩
theorem KeepF.set {F : Nat → Prop} {w w' : World} (h : KeepF F w w') (g i : Nat) (v : Value) (hg : F g → ¬ g < w.heap.size) : KeepF F w (w'.setCell ⟨g, i, none⟩ v) :=
  ⟨by have := h.1; simpa using this, fun k h1 h2 => (Below.heap_setCell _ _ _ k (fun e => by subst e; exact hg h1 h2)).trans (h.2 k h1 h2)⟩
theorem KeepF.below {F : Nat → Prop} {w w' w'' : World} (h : KeepF F w w') (hb : Below w'.heap.size w' w'') : KeepF F w w'' :=
  ⟨Nat.le_trans h.1 hb.size, fun k h1 h2 => (hb.block k (by have := h.1; omega)).trans (h.2 k h1 h2)⟩
theorem KeepF.cell {F : Nat → Prop} {w w' : World} (h : KeepF F w w') {p : Addr} {v : Value} (hF : F p.block) (hc : w.cell? p = some v) : w'.cell? p = some v :=
  (World.cell?_of_block (w := w) (h.2 p.block hF (cell_lt hc))).trans hc
theorem own_kept {w w' : World} {base k s : Nat} {e : TypeId} {v : Value} {xs : List Value} (h : w.ownsRow base e s v k xs) (hb : ∀ g, v.ownBlock = some g → w'.heap[g]? = w.heap[g]?) : w'.ownsRow base e s v k xs := by
  obtain ⟨h1, h2⟩ := h
  refine ⟨h1, ?_⟩
  rcases h2 with h2 | ⟨g, cap, cur, rfl, hb2, hh, rest⟩
  · exact .inl h2
  · exact .inr ⟨g, cap, cur, rfl, hb2, (hb g rfl).trans hh, rest⟩
theorem OwnS.kept {F : Nat → Prop} {w w' : World} {base : Nat} {v : Value} {bs : List β} {ss : List (Option Addr × Nat × Nat)} (h : OwnS f n To Ti sz w base v bs ss) (hk : KeepF F w w') (hF : ∀ k, Blks v ss k → F k) : OwnS f n To Ti sz w' base v bs ss := by
  have hlt := fun k => OwnS.lt h (k := k)
  obtain ⟨h1, h2, h3, h4⟩ := h
  exact ⟨h1, own_kept h2 (fun g hg => hk.2 g (hF g (.inl hg)) (hlt g (.inl hg)).2), fun i s b hs hb => by
    obtain ⟨a1, a2⟩ := h3 i s b hs hb
    exact ⟨a1, own_kept a2 (fun g hg => hk.2 g (hF g (.inr ⟨s, List.mem_of_getElem? hs, hg⟩)) (hlt g (.inr ⟨s, List.mem_of_getElem? hs, hg⟩)).2)⟩, h4⟩
theorem OwnS.below {w w' : World} {base : Nat} {v : Value} {bs : List β} {ss : List (Option Addr × Nat × Nat)} (h : OwnS f n To Ti sz w base v bs ss) (hb : Below w.heap.size w w') : OwnS f n To Ti sz w' base v bs ss :=
  OwnS.kept (F := fun _ => True) h ⟨hb.size, fun k _ hk => hb.block k hk⟩ (fun _ _ => trivial)
/-- a slice appended to, and stored in its place -/
theorem OwnS.upd {w w0 w1 : World} {base m c g i : Nat} {bs : List β} {b b' : β} {s s' : Option Addr × Nat × Nat} {ss : List (Option Addr × Nat × Nat)} (hTi : To ≠ Ti) (h : OwnS f n To Ti sz w base (.slice (some ⟨g, 0, none⟩) m c) bs ss) (hi : bs[i]? = some b)
    (hs : w.cell? ⟨g, i, none⟩ = some (sl3 s)) (hs' : s'.2.1 = n b') (hown : w1.ownsRow base Ti sz (sl3 s') (n b') (f b')) (hb0 : Below w.heap.size w w0) (hg : w0.grownBy w1 (sl3 s).ownBlock) (hor : (sl3 s').ownBlock = (sl3 s).ownBlock ∨ (sl3 s').ownBlock = some w0.heap.size) :
    (w1.cell? ⟨g, i, none⟩ = some (sl3 s) ∧ w1.frozen? ⟨g, i, none⟩ = false) ∧ OwnS f n To Ti sz (w1.setCell ⟨g, i, none⟩ (sl3 s')) base (.slice (some ⟨g, 0, none⟩) m c) (bs.set i b') (ss.set i s') ∧
      (∀ k, Blks (.slice (some ⟨g, 0, none⟩) m c) (ss.set i s') k → Blks (.slice (some ⟨g, 0, none⟩) m c) ss k ∨ w.heap.size ≤ k) ∧ (∀ k, (sl3 s).ownBlock = some k → Blks (.slice (some ⟨g, 0, none⟩) m c) ss k) := by
  obtain ⟨h1, h2, h3, h4⟩ := h
  have hm : m = ss.length := by
    obtain ⟨A', c', e, _⟩ := own_form h2
    simp only [Value.slice.injEq] at e
    exact e.2.1
  subst hm
  have hlt : i < ss.length := by rw [h1]; exact (List.getElem?_eq_some_iff.1 hi).1
  obtain ⟨s0, hs0⟩ : ∃ s0, ss[i]? = some s0 := ⟨_, List.getElem?_eq_getElem hlt⟩
  have hsl : (ss.map sl3).length = ss.length * 1 := by simp
  have hc := h2.cellAt i (by rw [Nat.mul_one]; exact hlt)
  rw [List.getElem?_map, hs0, hs] at hc
  have hss : sl3 s = sl3 s0 := by simpa using hc
  have a0 := (h3 i s0 b hs0 hi).2
  have h2a := own_bel h2 hb0
  have a0a := own_bel a0 hb0
  have hg0 : w0.grownBy w1 (sl3 s0).ownBlock := by rw [← hss]; exact hg
  have h21 := own_grown h2a hg0 (Ap.ne (own_type h2a a0a hTi))
  have h22 := (h21.stored i (sl3 s')).1
  have apo : ∀ {k : Nat} {u : Value} {xs : List Value}, w1.ownsRow base Ti sz u k xs → (w1.setCell ⟨g, i, none⟩ (sl3 s')).ownsRow base Ti sz u k xs := fun hu =>
    own_grown hu (grown_set w1 g i (sl3 s')) (fun k hk e => Ap.ne (own_type hu h21 (Ne.symm hTi)) k hk (by simpa [Value.ownBlock] using e))
  have hc1 := h21.cellAt i (by rw [Nat.mul_one]; exact hlt)
  rw [List.getElem?_map, hs0, ← show some (sl3 s) = Option.map sl3 (some s0) by rw [hss]; rfl] at hc1
  have hblk : ∀ k, (sl3 s).ownBlock = some k → Blks (.slice (some ⟨g, 0, none⟩) ss.length c) ss k := fun k hk => .inr ⟨s0, List.mem_of_getElem? hs0, by rw [← hss]; exact hk⟩
  refine ⟨⟨hc1, h21.frozenAt i⟩, ⟨by simp [h1], ?_, fun j u y hu hy => ?_, fun j k u x hjk hu hx => ?_⟩, fun k hk => ?_, hblk⟩
  · rw [List.length_set, List.map_set]; exact h22
  · rw [List.getElem?_set] at hu hy
    by_cases hij : i = j
    · subst hij
      rw [if_pos rfl, if_pos hlt] at hu
      rw [if_pos rfl, if_pos (by omega)] at hy
      simp at hu hy
      subst hu hy
      exact ⟨hs', apo hown⟩
    · rw [if_neg hij] at hu hy
      obtain ⟨a1, a2⟩ := h3 j u y hu hy
      exact ⟨a1, apo (own_grown (own_bel a2 hb0) hg0 (Ap.ne (h4 j i u s0 (Ne.symm hij) hu hs0)))⟩
  · have key : ∀ (j : Nat) (u : Option Addr × Nat × Nat), i ≠ j → ss[j]? = some u → Ap (sl3 u) (sl3 s') := fun j u hij hu => by
      have hj := (List.getElem?_eq_some_iff.1 hu).1
      obtain ⟨y, hy⟩ : ∃ y, bs[j]? = some y := ⟨_, List.getElem?_eq_getElem (by omega)⟩
      exact (h4 j i u s0 (Ne.symm hij) hu hs0).app (h3 j u y hu hy).2 (by rw [← hss]; exact hor) hb0.size
    rw [List.getElem?_set] at hu hx
    by_cases hij : i = j
    · subst hij
      rw [if_pos rfl, if_pos hlt] at hu
      rw [if_neg hjk] at hx
      simp at hu
      subst hu
      exact (key k x hjk hx).symm
    · rw [if_neg hij] at hu
      by_cases hik : i = k
      · subst hik
        rw [if_pos rfl, if_pos hlt] at hx
        simp at hx
        subst hx
        exact key j u hij hu
      · rw [if_neg hik] at hx
        exact h4 j k u x hjk hu hx
  · rcases hk with hk | ⟨u, hu, hk⟩
    · exact .inl (.inl hk)
    · rcases List.mem_or_eq_of_mem_set hu with hu | rfl
      · exact .inl (.inr ⟨u, hu, hk⟩)
      · rcases hor with ho | ho
        · exact .inl (hblk k (by rw [← ho]; exact hk))
        · rw [ho] at hk
          simp at hk
          exact .inr (by have := hb0.size; omega)
theorem OwnS.blk {w : World} {base m c g i : Nat} {bs : List β} {s : Option Addr × Nat × Nat} {ss : List (Option Addr × Nat × Nat)} (h : OwnS f n To Ti sz w base (.slice (some ⟨g, 0, none⟩) m c) bs ss) (hi : i < bs.length) (hs : w.cell? ⟨g, i, none⟩ = some (sl3 s)) (k : Nat) (hk : (sl3 s).ownBlock = some k) : Blks (.slice (some ⟨g, 0, none⟩) m c) ss k := by
  obtain ⟨h1, h2, h3, h4⟩ := h
  have hm : m = ss.length := by
    obtain ⟨A', c', e, _⟩ := own_form h2
    simp only [Value.slice.injEq] at e
    exact e.2.1
  subst hm
  have hlt : i < ss.length := by omega
  obtain ⟨s0, hs0⟩ : ∃ s0, ss[i]? = some s0 := ⟨_, List.getElem?_eq_getElem hlt⟩
  have hc := h2.cellAt i (by rw [Nat.mul_one]; exact hlt)
  rw [List.getElem?_map, hs0, hs] at hc
  have hss : sl3 s = sl3 s0 := by simpa using hc
  exact .inr ⟨s0, List.mem_of_getElem? hs0, by rw [← hss]; exact hk⟩
/-- one slice more, of fresh memory -/
theorem OwnS.app {wM w : World} {base : Nat} {v : Value} {bs : List β} {b : β} {s : Option Addr × Nat × Nat} {ss : List (Option Addr × Nat × Nat)} (hTi : To ≠ Ti) (h : OwnS f n To Ti sz wM base v bs ss) (hb : Below wM.heap.size wM w) (hbase : base ≤ wM.heap.size)
    (hs : s.2.1 = n b) (hin : w.ownsRow wM.heap.size Ti sz (sl3 s) (n b) (f b)) (o : Obj) {w' : World} {v' : Value} (happ : w'.ownsRow base To 1 v' (ss.length + 1) (ss.map sl3 ++ [sl3 s])) (hg : (w.alloc o).grownBy w' v.ownBlock) (hor : v'.ownBlock = v.ownBlock ∨ v'.ownBlock = some (w.alloc o).heap.size) :
    OwnS f n To Ti sz w' base v' (bs ++ [b]) (ss ++ [s]) ∧ ∀ k, Blks v' (ss ++ [s]) k → Blks v ss k ∨ wM.heap.size ≤ k := by
  obtain ⟨h1, h2, h3, h4⟩ := h
  have hbo := hb.alloc hb.size o
  have h2' := own_bel h2 hbo
  have apo : ∀ {base' k : Nat} {u : Value} {xs : List Value}, (w.alloc o).ownsRow base' Ti sz u k xs → w'.ownsRow base' Ti sz u k xs := fun hu => own_grown hu hg (Ap.ne (own_type hu h2' (Ne.symm hTi)))
  refine ⟨⟨by simp [h1], ?_, fun i u b' hu hi => ?_, fun i j u x hij hu hx => ?_⟩, fun k hk => ?_⟩
  · rw [List.length_append, List.map_append]
    exact happ
  · rcases Nat.lt_or_ge i ss.length with hlt | hge
    · rw [List.getElem?_append_left hlt] at hu
      rw [List.getElem?_append_left (by omega)] at hi
      obtain ⟨a1, a2⟩ := h3 i u b' hu hi
      exact ⟨a1, apo (own_bel a2 hbo)⟩
    · have hi0 : i = ss.length := by
        have := (List.getElem?_eq_some_iff.1 hu).1
        simp at this; omega
      subst hi0
      rw [List.getElem?_append_right (Nat.le_refl _)] at hu
      rw [h1, List.getElem?_append_right (Nat.le_refl _)] at hi
      simp at hu hi
      subst hu hi
      exact ⟨hs, apo (own_lower (hin.alloc _) hbase)⟩
  · have key : ∀ (i : Nat) (u : Option Addr × Nat × Nat), ss[i]? = some u → Ap (sl3 u) (sl3 s) := fun i u hu => by
      have hlt := (List.getElem?_eq_some_iff.1 hu).1
      obtain ⟨b', hb'⟩ : ∃ b', bs[i]? = some b' := ⟨_, List.getElem?_eq_getElem (by omega)⟩
      have a2 := (h3 i u b' hu hb').2
      unfold Ap
      rcases hx : (sl3 u).ownBlock with _ | g
      · exact .inl rfl
      · right
        intro e
        have := (a2.lt g hx).2
        have := (hin.lt g e.symm).1
        omega
    rcases Nat.lt_or_ge i ss.length with hi | hi <;> rcases Nat.lt_or_ge j ss.length with hj | hj
    · rw [List.getElem?_append_left hi] at hu
      rw [List.getElem?_append_left hj] at hx
      exact h4 i j u x hij hu hx
    · rw [List.getElem?_append_left hi] at hu
      have : j = ss.length := by have := (List.getElem?_eq_some_iff.1 hx).1; simp at this; omega
      subst this
      rw [List.getElem?_append_right (Nat.le_refl _)] at hx
      simp at hx; subst hx
      exact key i u hu
    · rw [List.getElem?_append_left hj] at hx
      have : i = ss.length := by have := (List.getElem?_eq_some_iff.1 hu).1; simp at this; omega
      subst this
      rw [List.getElem?_append_right (Nat.le_refl _)] at hu
      simp at hu; subst hu
      exact (key j x hx).symm
    · have e1 : i = ss.length := by have := (List.getElem?_eq_some_iff.1 hu).1; simp at this; omega
      have e2 : j = ss.length := by have := (List.getElem?_eq_some_iff.1 hx).1; simp at this; omega
      omega
  · rcases hk with hk | ⟨u, hu, hk⟩
    · rcases hor with ho | ho
      · exact .inl (.inl (by rw [← ho]; exact hk))
      · rw [ho] at hk
        simp at hk
        exact .inr (by have := hb.size; omega)
    · rcases List.mem_append.1 hu with hu | hu
      · exact .inl (.inr ⟨u, hu, hk⟩)
      · simp at hu
        subst hu
        exact .inr (hin.lt k hk).1
end
/-- make([][]Value, n), n a uint64 -/
theorem make_vv_u (w : World) (n : Nat) (hn : n ≤ 1000000000) : ∃ w1, (Instr.makeSlice 23 (.int .u64 (n : Int)) (.int .u64 (n : Int))).run Try.prog w = .ok (.slice (some ⟨w.heap.size, 0, none⟩) n n) w1 ∧
    OwnVV w1 w.heap.size (.slice (some ⟨w.heap.size, 0, none⟩) n n) (List.replicate n []) ∧ Below w.heap.size w w1 := by
  obtain ⟨i0, hi, hz0, hz1, hz2⟩ := info_parts Try.infoVs
  obtain ⟨w1, hmk, hown, hg⟩ := run_make_full (P := Try.prog) w w.heap.size 23 37 i0 (.slice none 0 0) 1 Try.underlying23 hi hz0 hz1 .u64 .u64 n (by rw [hz2]; omega) (by unfold maxLen; omega) (Nat.le_refl _)
  rw [show (Value.slice none 0 0).cells = #[.slice none 0 0] from rfl, toList_madeCells_one, Nat.mul_one] at hown
  refine ⟨w1, hmk, ⟨List.replicate n (none, 0, 0), by simp, ?_, fun i s b hs hb => ?_, fun i j s u hij hs hu => ?_⟩, (Below.refl _ w).grown hg (Nat.le_refl _) (by simp)⟩
  · rw [List.length_replicate, List.map_replicate]; exact hown
  · have h1 := List.eq_of_mem_replicate (List.mem_of_getElem? hs)
    have h2 := List.eq_of_mem_replicate (List.mem_of_getElem? hb)
    subst h1 h2
    exact ⟨rfl, World.ownsRow_nil _ _ _ _⟩
  · have h1 := List.eq_of_mem_replicate (List.mem_of_getElem? hs)
    subst h1
    exact .inl rfl
theorem rows_cols' (n : Nat) (cs : List (List V)) : rowsOf n cs = colsOf n cs := rfl
/-! ### rows as they grow, column by column -/
def stR (n : Nat) (acc : List (List V)) (l : List V) (j : Nat) : List (List V) := (List.range n).map fun r => if r < j then colAt (acc ++ [l]) r else colAt acc r
theorem stR_length (n : Nat) (acc : List (List V)) (l : List V) (j : Nat) : (stR n acc l j).length = n := by simp [stR]
theorem stR_get {n r : Nat} (acc : List (List V)) (l : List V) (j : Nat) (h : r < n) : (stR n acc l j)[r]? = some (if r < j then colAt (acc ++ [l]) r else colAt acc r) := by simp [stR, List.getElem?_map, List.getElem?_range h]
theorem stR_0 (n : Nat) (acc : List (List V)) (l : List V) : stR n acc l 0 = rowsOf n acc := by
  unfold stR
  rw [rows_cols']
  unfold colsOf
  exact List.map_congr_left fun r _ => by simp
theorem stR_end (n : Nat) (acc : List (List V)) (l : List V) : stR n acc l n = rowsOf n (acc ++ [l]) := by
  unfold stR
  rw [rows_cols']
  unfold colsOf
  exact List.map_congr_left fun r hr => by rw [if_pos (List.mem_range.1 hr)]
theorem stR_at {n j : Nat} (acc : List (List V)) (l : List V) (h : j < n) : (stR n acc l j)[j]? = some (colAt acc j) := by rw [stR_get _ _ _ h, if_neg (by omega)]
theorem stR_set {n j : Nat} (acc : List (List V)) (l : List V) {v : V} (h : j < n) (hv : l[j]? = some v) : (stR n acc l j).set j (colAt acc j ++ [v]) = stR n acc l (j + 1) := by
  have hc : colAt acc j ++ [v] = colAt (acc ++ [l]) j := by unfold colAt; rw [List.map_append, List.map_cons, List.map_nil, hv]; rfl
  rw [hc]
  apply List.ext_getElem?
  intro r
  rw [List.getElem?_set, stR_length]
  rcases Nat.lt_or_ge r n with hr | hr
  · rw [stR_get _ _ _ hr, stR_get _ _ _ hr]
    by_cases hij : j = r
    · subst hij; simp [h]
    · rw [if_neg hij]
      congr 1
      by_cases h2 : r < j
      · rw [if_pos h2, if_pos (by omega)]
      · rw [if_neg h2, if_neg (by omega)]
  · rw [List.getElem?_eq_none (by rw [stR_length]; exact hr), List.getElem?_eq_none (by rw [stR_length]; exact hr), if_neg (by omega)]
theorem rowsOf_0 (n : Nat) : rowsOf n [] = List.replicate n [] := by
  rw [rows_cols']
  unfold colsOf colAt
  simp [List.map_const']
end Go.Proofs.Ythkpgjcnnfdibaa

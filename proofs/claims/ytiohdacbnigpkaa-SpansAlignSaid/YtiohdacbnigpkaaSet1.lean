/- Spans in memory: their cells, slices of them that are read, owned, stored into; words on memory that the walks of layer 10 share. No condition. -/
import Derived.Test.YtiohdacbnigpkaaBas
import Derived.Test.YtiohdacbnigpkaaSetP
import Derived.Test.YtiohdacbnigpkaaSpan
import Derived.Maps.OwnSet
import Derived.Deep.Slices
import Derived.Deep.Fields
import Derived.Lib.SliceRun
namespace Go.Proofs.Ytiohdacbnigpkaa
open Go.RowKit Go.Maps Go.ChangeShapes Go.WideShapes Go.ChangeAt Go.Joins Go.Deep
set_option linter.unusedVariables false
set_option linter.unusedSimpArgs false

theorem own_bel {w w' : World} {base : Nat} {e : TypeId} {sz n : Nat} {v : Value} {xs : List Value} (h : w.ownsRow base e sz v n xs) (hb : Below w.heap.size w w') : w'.ownsRow base e sz v n xs := by
  obtain ⟨h1, h2⟩ := h
  refine ⟨h1, ?_⟩
  rcases h2 with h2 | ⟨g, cap, cur, hv, hbase, hg, rest⟩
  · exact .inl h2
  · exact .inr ⟨g, cap, cur, hv, hbase, (hb.block g (Array.getElem?_eq_some_iff.1 hg).1).trans hg, rest⟩
theorem own_lower {w : World} {base B n sz : Nat} {e : TypeId} {v : Value} {xs : List Value} (h : w.ownsRow B e sz v n xs) (hB : base ≤ B) : w.ownsRow base e sz v n xs := by
  obtain ⟨h1, h2⟩ := h
  refine ⟨h1, ?_⟩
  rcases h2 with h2 | ⟨g, cap, cur, hv, hb, rest⟩
  · exact .inl h2
  · exact .inr ⟨g, cap, cur, hv, by omega, rest⟩
theorem own_le {w : World} {base n c : Nat} {A : Option Addr} {e : TypeId} {sz : Nat} {xs : List Value} (h : w.ownsRow base e sz (.slice A n c) n xs) : n ≤ c := by
  obtain ⟨A', c', hv, hc⟩ := own_form h
  simp only [Value.slice.injEq] at hv
  omega
theorem own_len {w : World} {base n : Nat} {v : Value} {e : TypeId} {sz : Nat} {xs : List Value} (h : w.ownsRow base e sz v n xs) : xs.length = n * sz := h.1
theorem rd_arr (W : World) (xs : List Value) (T : TypeId) (b B : Nat) (hb : b = W.heap.size) (hB : b < B) : Rd (W.alloc (.cells xs.toArray T)) B (some ⟨b, 0, none⟩) xs := by
  subst hb
  refine .inr ⟨_, _, rfl, hB, fun j u hu => ?_⟩
  have h1 : (W.alloc (.cells xs.toArray T)).heap[W.heap.size]? = some (.cells xs.toArray T (0, 0)) := heap_alloc_new W _
  simp only [World.cell?, h1, Nat.zero_add]
  simpa using hu
theorem drew_heap (W : World) : W.drew.heap = W.heap := rfl

/-! ### spans -/
abbrev sc (s : S2) : List Value := [.int .i64 s.1, .int .i64 s.2]
abbrev sa (s : S2) : Value := .agg #[.int .i64 s.1, .int .i64 s.2]
def scells (l : List S2) : List Value := l.flatMap sc
def sok (s : S2) : Prop := (-9223372036854775808 ≤ s.1 ∧ s.1 ≤ 9223372036854775807) ∧ (-9223372036854775808 ≤ s.2 ∧ s.2 ≤ 9223372036854775807)
theorem scells_nil : scells [] = [] := rfl
theorem scells_cons (v : S2) (l : List S2) : scells (v :: l) = sc v ++ scells l := rfl
theorem scells_append (l m : List S2) : scells (l ++ m) = scells l ++ scells m := List.flatMap_append
theorem scells_snoc (l : List S2) (v : S2) : scells (l ++ [v]) = scells l ++ sc v := by rw [scells_append]; simp [scells]
theorem scells_length : ∀ l : List S2, (scells l).length = l.length * 2
  | [] => rfl
  | v :: l => by rw [scells_cons, List.length_append, scells_length l]; simp; omega
theorem sc_one (v : S2) : ∀ u ∈ sc v, u.oneCell' = true := by
  intro u hv
  simp only [sc, List.mem_cons, List.not_mem_nil, or_false] at hv
  rcases hv with rfl | rfl <;> rfl
theorem scells_one (l : List S2) : ∀ u ∈ scells l, u.oneCell' = true := by
  intro u hu
  obtain ⟨v, _, hv⟩ := List.mem_flatMap.1 hu
  exact sc_one v u hv
theorem scells_get : ∀ (l : List S2) (j : Nat), (scells l)[j]? = (l[j / 2]?).bind fun v => (sc v)[j % 2]?
  | [], j => by simp [scells]
  | v :: l, j => by
    rw [scells_cons]
    rcases Nat.lt_or_ge j 2 with h | h
    · rw [List.getElem?_append_left (by simpa using h), show j / 2 = 0 by omega, show j % 2 = j by omega]; rfl
    · rw [List.getElem?_append_right (by simpa using h), show (sc v).length = 2 from rfl, scells_get l (j - 2), show j / 2 = (j - 2) / 2 + 1 by omega, show (j - 2) % 2 = j % 2 by omega]; rfl
theorem scells_at (l : List S2) (i : Nat) (v : S2) (h : l[i]? = some v) : (scells l)[i * 2]? = some (.int .i64 v.1) ∧ (scells l)[i * 2 + 1]? = some (.int .i64 v.2) := by
  refine ⟨?_, ?_⟩
  · rw [scells_get, show i * 2 / 2 = i by omega, h, show i * 2 % 2 = 0 by omega]; rfl
  · rw [scells_get, show (i * 2 + 1) / 2 = i by omega, h, show (i * 2 + 1) % 2 = 1 by omega]; rfl
theorem scells_take (l : List S2) (k : Nat) : scells (l.take k) = (scells l).take (k * 2) := by
  rcases Nat.lt_or_ge k l.length with h | h
  · have h1 : scells l = scells (l.take k) ++ scells (l.drop k) := by rw [← scells_append, List.take_append_drop]
    have h2 : (scells (l.take k)).length = k * 2 := by rw [scells_length, List.length_take]; omega
    rw [h1, ← h2, List.take_left]
  · rw [List.take_of_length_le h, List.take_of_length_le (by rw [scells_length]; omega)]
/-- the cells of span i of a slice that reads as l -/
theorem rd_span {w : World} {B : Nat} {A : Option Addr} {l : List S2} (h : Rd w B A (scells l)) {i : Nat} {v : S2} (hi : l[i]? = some v) : ∃ b o, A = some ⟨b, o, none⟩ ∧ b < B ∧
    w.cell? ⟨b, o + i * 2, none⟩ = some (.int .i64 v.1) ∧ w.cell? ⟨b, o + i * 2 + 1, none⟩ = some (.int .i64 v.2) := by
  have hlt : i < l.length := (List.getElem?_eq_some_iff.1 hi).1
  obtain ⟨b, o, hA, hb, hc⟩ := h.at (k := i * 2) (by rw [scells_length]; omega)
  obtain ⟨h1, h2⟩ := scells_at l i v hi
  exact ⟨b, o, hA, hb, hc _ _ h1, by rw [Nat.add_assoc]; exact hc _ _ h2⟩
theorem sc_two {w : World} {T : TypeId} {k : Nat} (v : S2) (hk : k = w.heap.size) : Rd (w.alloc (.cells #[.int .i64 v.1, .int .i64 v.2] T)) (k + 1) (some ⟨k, 0, none⟩) (sc v) :=
  rd_arr w (sc v) T k (k + 1) hk (by omega)
theorem sc_block (w : World) (k n : Value) (T : TypeId) : (w.alloc (.cells #[k, n] T)).cell? ⟨w.heap.size, 0, none⟩ = some k ∧ (w.alloc (.cells #[k, n] T)).cell? ⟨w.heap.size, 1, none⟩ = some n := by
  refine ⟨?_, ?_⟩ <;> simp [go_sem]
theorem Try.infoSpan : ∃ by_, (Try.prog.info? 27).map (fun i => (i.zero, i.size, i.bytes)) = some (some (.agg #[.int .i64 0, .int .i64 0]), 2, by_) ∧ by_ ≤ 64 := ⟨16, by kernel_rfl, by decide⟩
theorem El_span : ∃ by_, El Try.prog 22 27 2 by_ ∧ by_ ≤ 64 := by
  obtain ⟨b, h, hb⟩ := Try.infoSpan
  exact ⟨b, el_of Try.underlying22 h rfl (by decide), hb⟩
theorem lit0_span (w : World) : (w.alloc (.cells #[] 27)).ownsRow w.heap.size 27 2 (.slice (some ⟨w.heap.size, 0, none⟩) 0 0) 0 [] := World.ownsRow_lit w #[] 0 (Nat.le_refl _) (by unfold maxLen; omega) rfl
/-- a span's end stored in a slice of the call's own -/
theorem set_to {l : List S2} {i : Nat} {v : S2} (h : l[i]? = some v) (x : Int) : (scells l).set (i * 2 + 1) (.int .i64 x) = scells (l.set i (v.1, x)) := by
  have hi : i < l.length := (List.getElem?_eq_some_iff.1 h).1
  apply List.ext_getElem?
  intro j
  rw [scells_get (l.set i (v.1, x)), List.getElem?_set (l := l)]
  have hl := scells_length l
  by_cases hj : i = j / 2
  · rw [if_pos hj, if_pos hi]
    rcases (by omega : j = i * 2 ∨ j = i * 2 + 1) with rfl | rfl
    · rw [List.getElem?_set_ne (by omega), (scells_at l i v h).1, show i * 2 % 2 = 0 by omega]; rfl
    · rw [List.getElem?_set_self (by omega), show (i * 2 + 1) % 2 = 1 by omega]; rfl
  · rw [if_neg hj, List.getElem?_set_ne (by omega), scells_get]
theorem own_set2 {w : World} {base n cap g : Nat} {e : TypeId} {l : List S2} (h : w.ownsRow base e 2 (.slice (some ⟨g, 0, none⟩) n cap) n (scells l)) {i : Nat} (v : S2) (hi : i < l.length) :
    ((w.setCell ⟨g, i * 2, none⟩ (.int .i64 v.1)).setCell ⟨g, i * 2 + 1, none⟩ (.int .i64 v.2)).ownsRow base e 2 (.slice (some ⟨g, 0, none⟩) n cap) n (scells (l.set i v)) := by
  have h3 := (h.stored (i * 2) (.int .i64 v.1)).1.stored (i * 2 + 1) (.int .i64 v.2)
  have e : ((scells l).set (i * 2) (.int .i64 v.1)).set (i * 2 + 1) (.int .i64 v.2) = scells (l.set i v) := by
    apply List.ext_getElem?
    intro j
    rw [scells_get (l.set i v), List.getElem?_set (l := l)]
    have hl := scells_length l
    rcases (by omega : j = i * 2 ∨ j = i * 2 + 1 ∨ (i ≠ j / 2 ∧ j ≠ i * 2 ∧ j ≠ i * 2 + 1)) with rfl | rfl | ⟨h0, h1, h2⟩
    · rw [if_pos (show i = i * 2 / 2 by omega), if_pos hi, show i * 2 % 2 = 0 by omega]
      rw [List.getElem?_set_ne (show i * 2 + 1 ≠ i * 2 by omega), List.getElem?_set_self (by omega)]; rfl
    · rw [if_pos (show i = (i * 2 + 1) / 2 by omega), if_pos hi, show (i * 2 + 1) % 2 = 1 by omega]
      rw [List.getElem?_set_self (by rw [List.length_set]; omega)]; rfl
    · rw [if_neg h0, List.getElem?_set_ne (Ne.symm h2), List.getElem?_set_ne (Ne.symm h1), scells_get]
  rw [e] at h3
  exact h3.1
theorem own_setTo {w : World} {base n cap g : Nat} {e : TypeId} {l : List S2} (h : w.ownsRow base e 2 (.slice (some ⟨g, 0, none⟩) n cap) n (scells l)) {i : Nat} {v : S2} (hv : l[i]? = some v) (x : Int) :
    (w.setCell ⟨g, i * 2 + 1, none⟩ (.int .i64 x)).ownsRow base e 2 (.slice (some ⟨g, 0, none⟩) n cap) n (scells (l.set i (v.1, x))) := by
  have h3 := (h.stored (i * 2 + 1) (.int .i64 x)).1
  rw [set_to hv x] at h3
  exact h3
/-- fewer of what is owned -/
theorem own_less {w : World} {base g n m cap : Nat} {e : TypeId} {sz : Nat} {xs : List Value} (h : w.ownsRow base e sz (.slice (some ⟨g, 0, none⟩) n cap) n xs) (hm : m ≤ n) : w.ownsRow base e sz (.slice (some ⟨g, 0, none⟩) m cap) m (xs.take (m * sz)) := by
  obtain ⟨h1, h2⟩ := h
  refine ⟨by rw [List.length_take, h1]; exact Nat.min_eq_left (Nat.mul_le_mul_right _ hm), ?_⟩
  rcases h2 with ⟨h2, _⟩ | ⟨g', cap', cur, hv, hb, hh, hnc, hcm, hcs, ht⟩
  · cases h2
  · simp only [Value.slice.injEq, Option.some.injEq, Addr.mk.injEq, and_true, true_and] at hv
    obtain ⟨rfl, rfl⟩ := hv
    refine .inr ⟨g, cap, cur, rfl, hb, hh, by omega, hcm, hcs, ?_⟩
    rw [← ht, List.take_take, Nat.min_eq_left (Nat.mul_le_mul_right _ hm)]
/-- What a call that answers spans leaves: they lie in new memory. -/
def RetSs (w : World) (l : List S2) (e : Ending) (w' : World) : Prop :=
  ∃ A c, e = .returned (.slice A l.length c) ∧ w'.ownsRow w.heap.size 27 2 (.slice A l.length c) l.length (scells l) ∧ Below w.heap.size w w'
theorem retSs_of {w w' : World} {l : List S2} {v : Value} (h : w'.ownsRow w.heap.size 27 2 v l.length (scells l)) (hb : Below w.heap.size w w') : RetSs w l (.returned v) w' := by
  obtain ⟨A, c, rfl, _⟩ := own_form h
  exact ⟨A, c, rfl, h, hb⟩
/-- What a call that answers spans and an error leaves. -/
def RetSE (w : World) (r : List S2 × Int) (e : Ending) (w' : World) : Prop :=
  ∃ A c, e = .returned (.tuple #[.slice A r.1.length c, .int .i64 r.2]) ∧ w'.ownsRow w.heap.size 27 2 (.slice A r.1.length c) r.1.length (scells r.1) ∧ Below w.heap.size w w'
theorem retSE_err {w w' : World} {r : List S2 × Int} {x : Int} (h : r = ([], x)) (hb : Below w.heap.size w w') : RetSE w r (.returned (.tuple #[.slice none 0 0, .int .i64 x])) w' := by
  subst h
  exact ⟨none, 0, rfl, World.ownsRow_nil _ _ _ _, hb⟩
theorem retSE_ok {w w' : World} {r : List S2 × Int} {l : List S2} {v : Value} (h : r = (l, 0)) (ho : w'.ownsRow w.heap.size 27 2 v l.length (scells l)) (hb : Below w.heap.size w w') : RetSE w r (.returned (.tuple #[v, .int .i64 0])) w' := by
  subst h
  obtain ⟨A, c, rfl, _⟩ := own_form ho
  exact ⟨A, c, rfl, ho, hb⟩
/-! ### spans that come in -/
theorem pick_list {α : Type} (p : Nat → α → Prop) : ∀ n : Nat, (∀ i, i < n → ∃ x, p i x) → ∃ l : List α, l.length = n ∧ ∀ i x, l[i]? = some x → p i x
  | 0, _ => ⟨[], rfl, by simp⟩
  | n + 1, h => by
    obtain ⟨l, h1, h2⟩ := pick_list p n fun i hi => h i (by omega)
    obtain ⟨x, hx⟩ := h n (by omega)
    refine ⟨l ++ [x], by simp [h1], fun i y hy => ?_⟩
    rcases Nat.lt_or_ge i l.length with hi | hi
    · rw [List.getElem?_append_left hi] at hy; exact h2 i y hy
    · rw [List.getElem?_append_right hi] at hy
      have hi' : i - l.length = 0 := by
        have := (List.getElem?_eq_some_iff.1 hy).1
        simp at this; omega
      rw [hi'] at hy
      simp at hy
      subst hy
      have : i = n := by omega
      subst this; exact hx
section
variable {H : Type} {enc : TypeId × Value → H} {P : Program} {W : World} {base : Nat} {spare : Nat → Bool} {held : Bool}
theorem open_spans {r : Reach} {b0 : Nat} {t e : TypeId} {f0 f1 : Field} {v : Value} {d : DataW H} {p : List MemPlace} (ht : P.underlying t = some (.slice e)) (he : P.underlying e = some (.struct #[f0, f1]))
    (hone : oneCellFields P #[f0, f1] = true) (hC : P.cellsOf e = 2) (u0 : P.underlying f0.type = some (.int .i64)) (u1 : P.underlying f1.type = some (.int .i64))
    (hv : Value.okWide P W r b0 t v) (h : DataW.Trod enc P W base spare held t v d p) :
    ∃ (A : Option Addr) (l : List S2) (c : Nat), v = .slice A l.length c ∧ Rd W W.heap.size A (scells l) ∧ (l.length ≤ c ∧ c ≤ maxLen) ∧ ∀ x ∈ l, sok x := by
  obtain ⟨A, len, c, rfl⟩ := okWide_slice ht hv
  obtain ⟨fuel, hf⟩ := h
  rcases open_slice ht hf with ⟨hcs, _⟩ | ⟨a, len', cap, m, n, D, Pl, hcs, _, hlc, hcm, hm, _, hi⟩
  · simp [Value.cells] at hcs
    obtain ⟨rfl, rfl, rfl⟩ := hcs
    exact ⟨none, [], 0, rfl, .inl rfl, by simp, by simp⟩
  · simp [Value.cells] at hcs
    obtain ⟨rfl, rfl, rfl⟩ := hcs
    have hl : len ≤ m := by rw [hm]; split <;> omega
    have key : ∀ i, i < len → ∃ x : S2, sok x ∧ W.cell? (a.add (i * 2)) = some (.int .i64 x.1) ∧ W.cell? ((a.add (i * 2)).add 1) = some (.int .i64 x.2) := by
      intro i him
      obtain ⟨cs', hc, ht'⟩ := hi i (by omega)
      rw [hC] at hc
      obtain ⟨_, hcl, hat⟩ := World.cells?_some hc
      obtain ⟨xs, n', _, _, _, hxl, hg⟩ := DataW.trod_struct he ht'
      match cs', hcl with
      | [c0, c1], _ =>
        obtain ⟨o0, k0⟩ := hone_of hone 0 f0 rfl
        obtain ⟨o1, k1⟩ := hone_of hone 1 f1 rfl
        match xs, hxl with
        | [y0, y1], _ =>
          have g0 : DataW.trod enc P W base spare held n' f0.type [c0] = some y0 := by simpa [Value.cells, o0, k0] using hg 0 f0 rfl
          have g1 : DataW.trod enc P W base spare held n' f1.type [c1] = some y1 := by simpa [Value.cells, o1, k1] using hg 1 f1 rfl
          obtain ⟨a0, e0, _, w0⟩ := DataW.trod_int u0 g0
          obtain ⟨a1, e1, _, w1⟩ := DataW.trod_int u1 g1
          simp at e0 e1
          subst e0 e1
          refine ⟨(a0, a1), ⟨i64_bd w0, i64_bd w1⟩, ?_, ?_⟩
          · have := hat 0 (by omega)
            rw [show (a.add (i * 2)).add 0 = a.add (i * 2) by simp [Addr.add]] at this
            exact this
          · exact hat 1 (by omega)
    obtain ⟨l, h1, h2⟩ := pick_list _ len key
    refine ⟨some a, l, c, by rw [h1], rd_of ?_, ⟨by omega, hcm⟩, fun x hx => ?_⟩
    · intro j u hu
      rw [scells_get] at hu
      obtain ⟨x, hx, hu⟩ := Option.bind_eq_some_iff.1 hu
      obtain ⟨_, q0, q1⟩ := h2 _ _ hx
      have hj : j = j / 2 * 2 + j % 2 := by omega
      have hadd : ∀ q, (a.add (j / 2 * 2)).add q = a.add (j / 2 * 2 + q) := fun q => Go.Deep.add_add _ _ _
      rw [hadd] at q1
      have h3 : j % 2 < 2 := Nat.mod_lt _ (by omega)
      rcases (show j % 2 = 0 ∨ j % 2 = 1 by omega) with e | e
      · rw [e] at hu hj; rw [hj, Nat.add_zero, q0]; simpa using hu
      · rw [e] at hu hj; rw [hj, q1]; simpa using hu
    · obtain ⟨i, hi⟩ := List.getElem?_of_mem hx
      exact (h2 i x hi).1
end
end Go.Proofs.Ytiohdacbnigpkaa

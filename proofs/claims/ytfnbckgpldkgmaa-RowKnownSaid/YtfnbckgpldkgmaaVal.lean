/- Values (a kind, a number, a text) in memory, and how a slice of them that comes in is opened. No condition. -/
import Derived.Test.YtfnbckgpldkgmaaFr2
import Derived.Test.YtfnbckgpldkgmaaVarPut
import Derived.Deep.Slices
import Derived.Deep.Fields
import Derived.ChangeSame
namespace Go.Proofs.Ytfnbckgpldkgmaa
open Go.ChangeShapes Go.WideShapes Go.ChangeAt Go.RowKit Go.Joins Go.Deep

/-- a value: its kind, its number, its text -/
structure V where
  k : Nat
  n : Int
  t : List UInt8
deriving DecidableEq
def i64r (n : Int) : Prop := -9223372036854775808 ≤ n ∧ n ≤ 9223372036854775807
def vok (v : V) : Prop := v.k < 256 ∧ i64r v.n ∧ v.t.length ≤ maxLen
def null : V := ⟨0, 0, []⟩
abbrev txt (t : List UInt8) : Value := .string ⟨t.toArray⟩
/-- a value's three cells -/
abbrev cv (v : V) : List Value := [.int .u8 (v.k : Int), .int .i64 v.n, txt v.t]
abbrev va (v : V) : Value := .agg #[.int .u8 (v.k : Int), .int .i64 v.n, txt v.t]
def vcells (l : List V) : List Value := l.flatMap cv
theorem vcells_nil : vcells [] = [] := rfl
theorem vcells_cons (v : V) (l : List V) : vcells (v :: l) = cv v ++ vcells l := rfl
theorem vcells_append (l m : List V) : vcells (l ++ m) = vcells l ++ vcells m := List.flatMap_append
theorem vcells_snoc (l : List V) (v : V) : vcells (l ++ [v]) = vcells l ++ cv v := by rw [vcells_append]; simp [vcells]
theorem vcells_length : ∀ l : List V, (vcells l).length = l.length * 3
  | [] => rfl
  | v :: l => by rw [vcells_cons, List.length_append, vcells_length l]; simp; omega
theorem vcells_one (l : List V) : ∀ u ∈ vcells l, u.oneCell' = true := by
  intro u hu
  obtain ⟨v, _, hv⟩ := List.mem_flatMap.1 hu
  simp only [cv, List.mem_cons, List.not_mem_nil, or_false] at hv
  rcases hv with rfl | rfl | rfl <;> rfl
theorem cv_one (v : V) : ∀ u ∈ cv v, u.oneCell' = true := by
  intro u hv
  simp only [cv, List.mem_cons, List.not_mem_nil, or_false] at hv
  rcases hv with rfl | rfl | rfl <;> rfl
theorem vcells_get : ∀ (l : List V) (j : Nat), (vcells l)[j]? = (l[j / 3]?).bind fun v => (cv v)[j % 3]?
  | [], j => by simp [vcells]
  | v :: l, j => by
    rw [vcells_cons]
    rcases Nat.lt_or_ge j 3 with h | h
    · rw [List.getElem?_append_left (by simpa using h), show j / 3 = 0 by omega, show j % 3 = j by omega]; rfl
    · rw [List.getElem?_append_right (by simpa using h), show (cv v).length = 3 from rfl, vcells_get l (j - 3), show j / 3 = (j - 3) / 3 + 1 by omega, show (j - 3) % 3 = j % 3 by omega]; rfl
theorem vcells_at (l : List V) (i : Nat) (v : V) (h : l[i]? = some v) : (vcells l)[i * 3]? = some (.int .u8 (v.k : Int)) ∧ (vcells l)[i * 3 + 1]? = some (.int .i64 v.n) ∧ (vcells l)[i * 3 + 2]? = some (txt v.t) := by
  refine ⟨?_, ?_, ?_⟩
  · rw [vcells_get, show i * 3 / 3 = i by omega, h, show i * 3 % 3 = 0 by omega]; rfl
  · rw [vcells_get, show (i * 3 + 1) / 3 = i by omega, h, show (i * 3 + 1) % 3 = 1 by omega]; rfl
  · rw [vcells_get, show (i * 3 + 2) / 3 = i by omega, h, show (i * 3 + 2) % 3 = 2 by omega]; rfl
/-- the cells of value i of a slice that reads as l -/
theorem rd_val {w : World} {B : Nat} {A : Option Addr} {l : List V} (h : Rd w B A (vcells l)) {i : Nat} {v : V} (hi : l[i]? = some v) : ∃ b o, A = some ⟨b, o, none⟩ ∧ b < B ∧
    w.cell? ⟨b, o + i * 3, none⟩ = some (.int .u8 (v.k : Int)) ∧ w.cell? ⟨b, o + i * 3 + 1, none⟩ = some (.int .i64 v.n) ∧ w.cell? ⟨b, o + i * 3 + 2, none⟩ = some (txt v.t) := by
  have hlt : i < l.length := (List.getElem?_eq_some_iff.1 hi).1
  obtain ⟨b, o, hA, hb, hc⟩ := h.at (k := i * 3) (by rw [vcells_length]; omega)
  obtain ⟨h1, h2, h3⟩ := vcells_at l i v hi
  exact ⟨b, o, hA, hb, hc _ _ h1, by rw [Nat.add_assoc]; exact hc _ _ h2, by rw [Nat.add_assoc]; exact hc _ _ h3⟩
theorem Try.infoVal : ∃ by_, (Try.prog.info? 37).map (fun i => (i.zero, i.size, i.bytes)) = some (some (.agg #[.int .u8 0, .int .i64 0, .string ByteArray.empty]), 3, by_) ∧ by_ ≤ 64 := ⟨32, by kernel_rfl, by decide⟩
theorem El_val : ∃ by_, El Try.prog 23 37 3 by_ ∧ by_ ≤ 64 := by
  obtain ⟨b, h, hb⟩ := Try.infoVal
  exact ⟨b, el_of Try.underlying23 h rfl (by decide), hb⟩

theorem pick_list {α : Type} (p : Nat → α → Prop) : ∀ n : Nat, (∀ i, i < n → ∃ x, p i x) → ∃ l : List α, l.length = n ∧ ∀ i x, l[i]? = some x → p i x
  | 0, _ => ⟨[], rfl, by simp⟩
  | n + 1, h => by
    obtain ⟨l, h1, h2⟩ := pick_list p n fun i hi => h i (by omega)
    obtain ⟨x, hx⟩ := h n (by omega)
    refine ⟨l ++ [x], by simp [h1], fun i y hy => ?_⟩
    rcases Nat.lt_or_ge i l.length with hi | hi
    · rw [List.getElem?_append_left hi] at hy; exact h2 i y hy
    · rw [List.getElem?_append_right hi] at hy
      have hi' : i - l.length = 0 := by
        have := (List.getElem?_eq_some_iff.1 hy).1
        simp at this; omega
      rw [hi'] at hy
      simp at hy
      subst hy
      have : i = n := by omega
      subst this; exact hx

section
variable {H : Type} {enc : TypeId × Value → H} {P : Program} {W : World} {base : Nat} {spare : Nat → Bool} {held : Bool}
theorem open_vals {r : Reach} {b0 : Nat} {t e : TypeId} {f0 f1 f2 : Field} {v : Value} {d : DataW H} {p : List MemPlace} (ht : P.underlying t = some (.slice e)) (he : P.underlying e = some (.struct #[f0, f1, f2]))
    (hone : oneCellFields P #[f0, f1, f2] = true) (hC : P.cellsOf e = 3) (u0 : P.underlying f0.type = some (.int .u8)) (u1 : P.underlying f1.type = some (.int .i64)) (u2 : P.underlying f2.type = some .string)
    (hv : Value.okWide P W r b0 t v) (h : DataW.Trod enc P W base spare held t v d p) :
    ∃ (A : Option Addr) (l : List V) (c : Nat), v = .slice A l.length c ∧ Rd W W.heap.size A (vcells l) ∧ (l.length ≤ c ∧ c ≤ maxLen) ∧ ∀ x ∈ l, vok x := by
  obtain ⟨A, len, c, rfl⟩ := okWide_slice ht hv
  obtain ⟨fuel, hf⟩ := h
  rcases open_slice ht hf with ⟨hcs, _⟩ | ⟨a, len', cap, m, n, D, Pl, hcs, _, hlc, hcm, hm, _, hi⟩
  · simp [Value.cells] at hcs
    obtain ⟨rfl, rfl, rfl⟩ := hcs
    exact ⟨none, [], 0, rfl, .inl rfl, by simp, by simp⟩
  · simp [Value.cells] at hcs
    obtain ⟨rfl, rfl, rfl⟩ := hcs
    have hl : len ≤ m := by rw [hm]; split <;> omega
    have key : ∀ i, i < len → ∃ x : V, vok x ∧ W.cell? (a.add (i * 3)) = some (.int .u8 (x.k : Int)) ∧ W.cell? ((a.add (i * 3)).add 1) = some (.int .i64 x.n) ∧ W.cell? ((a.add (i * 3)).add 2) = some (txt x.t) := by
      intro i him
      obtain ⟨cs', hc, ht'⟩ := hi i (by omega)
      rw [hC] at hc
      obtain ⟨_, hcl, hat⟩ := World.cells?_some hc
      obtain ⟨xs, n', _, _, _, hxl, hg⟩ := DataW.trod_struct he ht'
      match cs', hcl with
      | [c0, c1, c2], _ =>
        obtain ⟨o0, k0⟩ := hone_of hone 0 f0 rfl
        obtain ⟨o1, k1⟩ := hone_of hone 1 f1 rfl
        obtain ⟨o2, k2⟩ := hone_of hone 2 f2 rfl
        match xs, hxl with
        | [y0, y1, y2], _ =>
          have g0 : DataW.trod enc P W base spare held n' f0.type [c0] = some y0 := by simpa [Value.cells, o0, k0] using hg 0 f0 rfl
          have g1 : DataW.trod enc P W base spare held n' f1.type [c1] = some y1 := by simpa [Value.cells, o1, k1] using hg 1 f1 rfl
          have g2 : DataW.trod enc P W base spare held n' f2.type [c2] = some y2 := by simpa [Value.cells, o2, k2] using hg 2 f2 rfl
          obtain ⟨a0, e0, _, w0⟩ := DataW.trod_int u0 g0
          obtain ⟨a1, e1, _, w1⟩ := DataW.trod_int u1 g1
          obtain ⟨s2, e2, _, w2⟩ := DataW.trod_string u2 g2
          simp at e0 e1 e2
          subst e0 e1 e2
          have b0 := u8_bd w0
          have b1 := i64_bd w1
          have hs : (⟨s2.data.toList.toArray⟩ : ByteArray) = s2 := by cases s2; simp
          refine ⟨⟨a0.toNat, a1, s2.data.toList⟩, ⟨by show a0.toNat < 256; omega, b1, by show s2.data.toList.length ≤ maxLen; rw [Array.length_toList]; exact w2⟩, ?_, ?_, ?_⟩
          · have := hat 0 (by omega)
            rw [show (a.add (i * 3)).add 0 = a.add (i * 3) by simp [Addr.add]] at this
            rw [this]
            show some (Value.int .u8 a0) = some (Value.int .u8 ((a0.toNat : Nat) : Int))
            rw [Int.toNat_of_nonneg b0.1]
          · exact hat 1 (by omega)
          · rw [hat 2 (by omega)]
            show some (Value.string s2) = some (Value.string ⟨s2.data.toList.toArray⟩)
            rw [hs]
    obtain ⟨l, h1, h2⟩ := pick_list _ len key
    refine ⟨some a, l, c, by rw [h1], rd_of ?_, ⟨by omega, hcm⟩, fun x hx => ?_⟩
    · intro j u hu
      rw [vcells_get] at hu
      obtain ⟨x, hx, hu⟩ := Option.bind_eq_some_iff.1 hu
      obtain ⟨_, q0, q1, q2⟩ := h2 _ _ hx
      have hj : j = j / 3 * 3 + j % 3 := by omega
      have hadd : ∀ q, (a.add (j / 3 * 3)).add q = a.add (j / 3 * 3 + q) := fun q => Go.Deep.add_add _ _ _
      rw [hadd] at q1 q2
      have h3 : j % 3 < 3 := Nat.mod_lt _ (by omega)
      rcases (show j % 3 = 0 ∨ j % 3 = 1 ∨ j % 3 = 2 by omega) with e | e | e
      · rw [e] at hu hj; rw [hj, Nat.add_zero, q0]; simpa using hu
      · rw [e] at hu hj; rw [hj, q1]; simpa using hu
      · rw [e] at hu hj; rw [hj, q2]; simpa using hu
    · obtain ⟨i, hi⟩ := List.getElem?_of_mem hx
      exact (h2 i x hi).1
end
end Go.Proofs.Ytfnbckgpldkgmaa

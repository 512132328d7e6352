/- Joined texts: see the remark ahead of each part. No condition but those that the parts name. -/
import Derived.Test.YthkpgjcnnfdibaaCRd
import Derived.Test.YthkpgjcnnfdibaaRwq
import Derived.Test.YthkpgjcnnfdibaaCoQ
import Derived.RangeFuncBox
import Derived.Deep.Slices
import Derived.Deep.Fields
/-! Plain functions of layer 7: a segment's bytes, its pieces, how they are read. No program in sight. -/
namespace Go.Proofs.Ythkpgjcnnfdibaa
open Go.RowKit
set_option linter.unusedVariables false

/-! ### columns of rows, rows of columns -/
def colAt (rows : List (List V)) (i : Nat) : List V := rows.map fun r => r[i]?.getD null
def colsOf (m : Nat) (rows : List (List V)) : List (List V) := (List.range m).map (colAt rows)
theorem colsOf_length (m : Nat) (rows : List (List V)) : (colsOf m rows).length = m := by simp [colsOf]
theorem colsOf_at {m i : Nat} (rows : List (List V)) (h : i < m) : (colsOf m rows)[i]? = some (colAt rows i) := by simp [colsOf, List.getElem?_map, List.getElem?_range h]
theorem colAt_length (rows : List (List V)) (i : Nat) : (colAt rows i).length = rows.length := List.length_map _
theorem colAt_at {rows : List (List V)} {k i : Nat} {r : List V} (h : rows[k]? = some r) : (colAt rows i)[k]? = some (r[i]?.getD null) := by simp [colAt, List.getElem?_map, h]
theorem colAt_take {rows : List (List V)} {k i : Nat} {r : List V} {v : V} (h : rows[k]? = some r) (hv : r[i]? = some v) : (colAt rows i).take (k + 1) = (colAt rows i).take k ++ [v] := by
  rw [List.take_add_one, colAt_at h, hv]; rfl
theorem colsOf_take {m i : Nat} (rows : List (List V)) (h : i < m) : (colsOf m rows).take (i + 1) = (colsOf m rows).take i ++ [colAt rows i] := by
  rw [List.take_add_one, colsOf_at rows h]; rfl
/-! ### least and greatest values -/
def least (cs : List (List V)) : List V := cs.map fun c => (bnds c).1
def greatest (cs : List (List V)) : List V := cs.map fun c => (bnds c).2
theorem least_length (cs : List (List V)) : (least cs).length = cs.length := List.length_map _
theorem greatest_length (cs : List (List V)) : (greatest cs).length = cs.length := List.length_map _
/-! ### a segment's bytes -/
def part1 (p : List UInt8) : List UInt8 := vput p.length ++ p
/-- column i's part -/
def cpart (x : UInt8 × List V) : List UInt8 := part1 (cput x.1 x.2).1
def segHead (T : List UInt8) (n : Nat) (cs : List (List V)) : List UInt8 := vput n ++ part1 (rput T (least cs)).1 ++ part1 (rput T (greatest cs)).1
def segBytes (T : List UInt8) (n : Nat) (cs : List (List V)) : List UInt8 := segHead T n cs ++ (T.zip cs).flatMap cpart
/-! ### pieces -/
def many (n : Nat) : Nat := (n + 999) / 1000
def pieceAt (b : List UInt8) (i : Nat) : List UInt8 := (b.drop (1000 * i)).take 1000
def chunk (b : List UInt8) : List (List UInt8) := (List.range (many b.length)).map (pieceAt b)
theorem chunk_length (b : List UInt8) : (chunk b).length = many b.length := by simp [chunk]
theorem chunk_at {b : List UInt8} {i : Nat} (h : i < many b.length) : (chunk b)[i]? = some (pieceAt b i) := by simp [chunk, List.getElem?_map, List.getElem?_range h]
theorem chunk_take {b : List UInt8} {i : Nat} (h : i < many b.length) : (chunk b).take (i + 1) = (chunk b).take i ++ [pieceAt b i] := by
  rw [List.take_add_one, chunk_at h]; rfl
theorem pieceAt_length (b : List UInt8) (i : Nat) : (pieceAt b i).length = min 1000 (b.length - 1000 * i) := by simp [pieceAt]
theorem chunk_cat : ∀ (b : List UInt8) (k : Nat), ((chunk b).take k).flatten = b.take (1000 * k)
  | b, 0 => by simp
  | b, k + 1 => by
    rcases Nat.lt_or_ge k (many b.length) with h | h
    · rw [chunk_take h, List.flatten_append, chunk_cat b k]
      simp only [List.flatten_cons, List.flatten_nil, List.append_nil, pieceAt]
      rw [show 1000 * (k + 1) = 1000 * k + 1000 by omega, List.take_add]
    · have h1 : (chunk b).take (k + 1) = (chunk b).take k := by
        rw [List.take_of_length_le (by rw [chunk_length]; omega), List.take_of_length_le (by rw [chunk_length]; omega)]
      rw [h1, chunk_cat b k, List.take_of_length_le (by unfold many at h; omega), List.take_of_length_le (by unfold many at h; omega)]
theorem chunk_flat (b : List UInt8) : (chunk b).flatten = b := by
  have h := chunk_cat b (chunk b).length
  rw [List.take_length] at h
  rw [h, List.take_of_length_le (by rw [chunk_length]; unfold many; omega)]
/-- are pieces a segment's? -/
def pcOk (n : Nat) (i : Nat) (p : List UInt8) : Bool := !((decide (i + 1 < n) && decide (p.length ≠ 1000)) || decide (p.length < 1) || decide (1000 < p.length))
def pcsOk (ps : List (List UInt8)) : Bool := (List.range ps.length).all fun i => pcOk ps.length i (ps[i]?.getD [])
/-! ### making -/
def rowsOk (T : List UInt8) (rows : List (List V)) : Bool := rows.all (rowok T)
def segMake (T : List UInt8) (rows : List (List V)) : List (List UInt8) × Nat :=
  if knownT T = false then ([], 1) else if rowsOk T rows = false then ([], 1) else if 65536 < rows.length then ([], 2) else (chunk (segBytes T rows.length (colsOf T.length rows)), 0)
/-! ### reading -/
/-- a part that bytes begin with, what is behind it, the error -/
def rpart (b : List UInt8) : List UInt8 × List UInt8 × Nat :=
  if (vget b).2.2 ≠ 0 then ([], [], (vget b).2.2)
  else if (b.drop (vget b).2.1).length < (vget b).1 then ([], [], 20)
  else ((b.drop (vget b).2.1).take (vget b).1, (b.drop (vget b).2.1).drop (vget b).1, 0)
/-- columns, what is behind them, the error -/
def rcols (n : Nat) : List UInt8 → List (List V) → List UInt8 → List (List V) × List UInt8 × Nat
  | [], acc, b => (acc, b, 0)
  | t :: T, acc, b =>
    if (rpart b).2.2 ≠ 0 then ([], [], (rpart b).2.2)
    else if (cget t (rpart b).1 n).2 ≠ 0 then ([], [], (cget t (rpart b).1 n).2)
    else rcols n T (acc ++ [(cget t (rpart b).1 n).1]) (rpart b).2.1
/-- what a segment's bytes say: columns, how many rows, least and greatest values; or the error -/
structure Seg where
  cols : List (List V)
  n : Nat
  lo : List V
  hi : List V
  e : Nat
def segErr (e : Nat) : Seg := ⟨[], 0, [], [], e⟩
def sread5 (T : List UInt8) (n : Nat) (a b : List UInt8) (lo hi : List V) (r : List (List V) × List UInt8 × Nat) : Seg :=
  if r.2.2 ≠ 0 then segErr r.2.2
  else if r.2.1 ≠ [] ∨ (rput T (least r.1)).1 ≠ a ∨ (rput T (greatest r.1)).1 ≠ b then segErr 21
  else ⟨r.1, n, lo, hi, 0⟩
def sread4 (T : List UInt8) (n : Nat) (a b : List UInt8) (lo : List V) (rest : List UInt8) (g : List V × Nat) : Seg :=
  if g.2 ≠ 0 then segErr g.2 else sread5 T n a b lo g.1 (rcols n T [] rest)
def sread3 (T : List UInt8) (n : Nat) (a : List UInt8) (lo : List V) (p : List UInt8 × List UInt8 × Nat) : Seg :=
  if p.2.2 ≠ 0 then segErr p.2.2 else sread4 T n a p.1 lo p.2.1 (rget T p.1)
def sread2 (T : List UInt8) (n : Nat) (a rest : List UInt8) (g : List V × Nat) : Seg :=
  if g.2 ≠ 0 then segErr g.2 else sread3 T n a g.1 (rpart rest)
def sread1 (T : List UInt8) (n : Nat) (p : List UInt8 × List UInt8 × Nat) : Seg :=
  if p.2.2 ≠ 0 then segErr p.2.2 else sread2 T n p.1 p.2.1 (rget T p.1)
def sread (T b : List UInt8) : Seg :=
  if (vget b).2.2 ≠ 0 then segErr (vget b).2.2
  else if 65536 < (vget b).1 then segErr 21
  else sread1 T (vget b).1 (rpart (b.drop (vget b).2.1))
def sopen (T : List UInt8) (ps : List (List UInt8)) : Seg :=
  if knownT T = false then segErr 1 else if pcsOk ps = false then segErr 21 else if ps.length = 0 then segErr 21 else sread T ps.flatten
/-- rows of n columns -/
def rowsOf (n : Nat) (cs : List (List V)) : List (List V) := (List.range n).map fun k => cs.map fun c => c[k]?.getD null
theorem rowsOf_length (n : Nat) (cs : List (List V)) : (rowsOf n cs).length = n := by simp [rowsOf]
theorem rowsOf_at {n k : Nat} (cs : List (List V)) (h : k < n) : (rowsOf n cs)[k]? = some (cs.map fun c => c[k]?.getD null) := by simp [rowsOf, List.getElem?_map, List.getElem?_range h]
end Go.Proofs.Ythkpgjcnnfdibaa

/-! Slices of slices in memory: read, owned, appended to, stored into (layer 7). No condition. -/
namespace Go.Proofs.Ythkpgjcnnfdibaa
open Go.RowKit Go.Maps
set_option linter.unusedVariables false

abbrev sl3 (p : Option Addr × Nat × Nat) : Value := .slice p.1 p.2.1 p.2.2
theorem Rd.next {w w' : World} {A : Option Addr} {xs : List Value} (h : Rd w w.heap.size A xs) (hb : Below w.heap.size w w') : Rd w' w'.heap.size A xs := (h.below hb).more hb.size
section
variable {β : Type} {f : β → List Value} {n : β → Nat}
/-- a slice of slices that reads as bs -/
def RdN (f : β → List Value) (n : β → Nat) (w : World) (B : Nat) (A : Option Addr) (bs : List β) : Prop :=
  ∃ ss : List (Option Addr × Nat × Nat), ss.length = bs.length ∧ Rd w B A (ss.map sl3) ∧ ∀ (i : Nat) (s : Option Addr × Nat × Nat) (b : β), ss[i]? = some s → bs[i]? = some b → s.2.1 = n b ∧ n b ≤ s.2.2 ∧ Rd w B s.1 (f b)
theorem RdN.nil (w : World) (B : Nat) (A : Option Addr) : RdN f n w B A [] := ⟨[], rfl, .inl rfl, by simp⟩
theorem RdN.below {w w' : World} {B : Nat} {A : Option Addr} {bs : List β} (h : RdN f n w B A bs) (hb : Below B w w') : RdN f n w' B A bs := by
  obtain ⟨ss, h1, h2, h3⟩ := h
  exact ⟨ss, h1, h2.below hb, fun i s b hs hi => by obtain ⟨a1, a2, a3⟩ := h3 i s b hs hi; exact ⟨a1, a2, a3.below hb⟩⟩
theorem RdN.more {w : World} {B B' : Nat} {A : Option Addr} {bs : List β} (h : RdN f n w B A bs) (hB : B ≤ B') : RdN f n w B' A bs := by
  obtain ⟨ss, h1, h2, h3⟩ := h
  exact ⟨ss, h1, h2.more hB, fun i s b hs hi => by obtain ⟨a1, a2, a3⟩ := h3 i s b hs hi; exact ⟨a1, a2, a3.more hB⟩⟩
theorem RdN.next {w w' : World} {A : Option Addr} {bs : List β} (h : RdN f n w w.heap.size A bs) (hb : Below w.heap.size w w') : RdN f n w' w'.heap.size A bs := (h.below hb).more hb.size
theorem rdN_at {w : World} {B : Nat} {A : Option Addr} {bs : List β} (h : RdN f n w B A bs) {i : Nat} {b : β} (hi : bs[i]? = some b) :
    ∃ g o a c, A = some ⟨g, o, none⟩ ∧ g < B ∧ w.cell? ⟨g, o + i, none⟩ = some (.slice a (n b) c) ∧ n b ≤ c ∧ Rd w B a (f b) := by
  obtain ⟨ss, h1, h2, h3⟩ := h
  have hlt : i < ss.length := by rw [h1]; exact (List.getElem?_eq_some_iff.1 hi).1
  obtain ⟨s, hs⟩ : ∃ s, ss[i]? = some s := ⟨_, List.getElem?_eq_getElem hlt⟩
  obtain ⟨g, o, hA, hg, hc⟩ := h2.at (k := i) (by simpa using hlt)
  obtain ⟨a1, a2, a3⟩ := h3 i s b hs hi
  refine ⟨g, o, s.1, s.2.2, hA, hg, ?_, a2, a3⟩
  rw [hc i (sl3 s) (by rw [List.getElem?_map, hs]; rfl), ← a1]
/-! ### owned -/
/-- a slice of slices of the call's own: each slice of its own memory -/
def OwnN (f : β → List Value) (n : β → Nat) (To Ti : TypeId) (sz : Nat) (w : World) (base : Nat) (v : Value) (bs : List β) : Prop :=
  ∃ ss : List (Option Addr × Nat × Nat), ss.length = bs.length ∧ w.ownsRow base To 1 v ss.length (ss.map sl3) ∧
    (∀ (i : Nat) (s : Option Addr × Nat × Nat) (b : β), ss[i]? = some s → bs[i]? = some b → s.2.1 = n b ∧ w.ownsRow base Ti sz (sl3 s) (n b) (f b)) ∧
    ∀ (i j : Nat) (s u : Option Addr × Nat × Nat), i ≠ j → ss[i]? = some s → ss[j]? = some u → Ap (sl3 s) (sl3 u)
variable {To Ti : TypeId} {sz : Nat}
theorem OwnN.nil (w : World) (base : Nat) : OwnN f n To Ti sz w base (.slice none 0 0) [] := ⟨[], rfl, World.ownsRow_nil _ _ _ _, by simp, by simp⟩
theorem OwnN.form {w : World} {base : Nat} {v : Value} {bs : List β} (h : OwnN f n To Ti sz w base v bs) : ∃ A c, v = .slice A bs.length c ∧ bs.length ≤ c := by
  obtain ⟨ss, h1, h2, _⟩ := h
  rw [← h1]; exact own_form h2
theorem OwnN.rd {w : World} {base m c : Nat} {A : Option Addr} {bs : List β} (h : OwnN f n To Ti sz w base (.slice A m c) bs) : RdN f n w w.heap.size A bs := by
  obtain ⟨ss, h1, h2, h3, _⟩ := h
  have hm : m = ss.length := by
    obtain ⟨A', c', e, _⟩ := own_form h2
    simp only [Value.slice.injEq] at e
    exact e.2.1
  subst hm
  refine ⟨ss, h1, rd_own h2, fun i s b hs hi => ?_⟩
  obtain ⟨a1, a2⟩ := h3 i s b hs hi
  obtain ⟨s1, s2, s3⟩ := s
  dsimp only at a1 a2 ⊢
  subst a1
  exact ⟨rfl, own_le a2, rd_own a2⟩
theorem OwnN.below {w w' : World} {base : Nat} {v : Value} {bs : List β} (h : OwnN f n To Ti sz w base v bs) (hb : Below w.heap.size w w') : OwnN f n To Ti sz w' base v bs := by
  obtain ⟨ss, h1, h2, h3, h4⟩ := h
  exact ⟨ss, h1, own_bel h2 hb, fun i s b hs hi => by obtain ⟨a1, a2⟩ := h3 i s b hs hi; exact ⟨a1, own_bel a2 hb⟩, h4⟩
theorem OwnN.lower {w : World} {base B : Nat} {v : Value} {bs : List β} (h : OwnN f n To Ti sz w B v bs) (hB : base ≤ B) : OwnN f n To Ti sz w base v bs := by
  obtain ⟨ss, h1, h2, h3, h4⟩ := h
  exact ⟨ss, h1, own_lower h2 hB, fun i s b hs hi => by obtain ⟨a1, a2⟩ := h3 i s b hs hi; exact ⟨a1, own_lower a2 hB⟩, h4⟩
theorem own_grown {w w' : World} {base k s : Nat} {e : TypeId} {v : Value} {xs : List Value} {r : Option Nat} (h : w.ownsRow base e s v k xs) (hg : w.grownBy w' r) (hr : ∀ g, v.ownBlock = some g → r ≠ some g) : w'.ownsRow base e s v k xs := by
  obtain ⟨h1, h2⟩ := h
  refine ⟨h1, ?_⟩
  rcases h2 with h2 | ⟨g, cap, cur, rfl, hb, hh, rest⟩
  · exact .inl h2
  · exact .inr ⟨g, cap, cur, rfl, hb, (hg.block g (Array.getElem?_eq_some_iff.1 hh).1 (fun e => hr g rfl e.symm)).trans hh, rest⟩
theorem Ap.ne {v u : Value} (h : Ap v u) : ∀ g, v.ownBlock = some g → u.ownBlock ≠ some g := by
  intro g hg
  rcases h with h | h
  · rw [h] at hg; cases hg
  · intro e; rw [hg, e] at h; exact h rfl
theorem grown_set (W : World) (g i : Nat) (v : Value) : W.grownBy (W.setCell ⟨g, i, none⟩ v) (some g) :=
  ⟨rfl, rfl, rfl, by simp [World.setCell], fun k _ hk => Below.heap_setCell _ _ _ k (fun e => hk (by rw [e]))⟩
/-- one slice more, of fresh memory -/
theorem OwnN.snoc {wM w w' : World} {base : Nat} {v v' : Value} {bs : List β} {b : β} {s : Option Addr × Nat × Nat} (hTi : To ≠ Ti) (h : OwnN f n To Ti sz wM base v bs) (hb : Below wM.heap.size wM w) (hbase : base ≤ wM.heap.size)
    (hs : s.2.1 = n b) (hin : w.ownsRow wM.heap.size Ti sz (sl3 s) (n b) (f b))
    (happ : ∀ ss : List (Option Addr × Nat × Nat), ss.length = bs.length → w.ownsRow base To 1 v ss.length (ss.map sl3) → w'.ownsRow base To 1 v' (ss.length + 1) (ss.map sl3 ++ [sl3 s])) (hg : w.grownBy w' v.ownBlock) :
    OwnN f n To Ti sz w' base v' (bs ++ [b]) := by
  obtain ⟨ss, h1, h2, h3, h4⟩ := h
  have h2' := own_bel h2 hb
  have apo : ∀ {base' k : Nat} {u : Value} {xs : List Value}, w.ownsRow base' Ti sz u k xs → w'.ownsRow base' Ti sz u k xs := fun hu => own_grown hu hg (Ap.ne (own_type hu h2' (Ne.symm hTi)))
  refine ⟨ss ++ [s], by simp [h1], ?_, fun i u b' hu hi => ?_, fun i j u x hij hu hx => ?_⟩
  · rw [List.length_append, List.map_append]
    exact happ ss h1 h2'
  · rcases Nat.lt_or_ge i ss.length with hlt | hge
    · rw [List.getElem?_append_left hlt] at hu
      rw [List.getElem?_append_left (by omega)] at hi
      obtain ⟨a1, a2⟩ := h3 i u b' hu hi
      exact ⟨a1, apo (own_bel a2 hb)⟩
    · have hi0 : i = ss.length := by
        have := (List.getElem?_eq_some_iff.1 hu).1
        simp at this; omega
      subst hi0
      rw [List.getElem?_append_right (Nat.le_refl _)] at hu
      rw [h1, List.getElem?_append_right (Nat.le_refl _)] at hi
      simp at hu hi
      subst hu hi
      exact ⟨hs, apo (own_lower hin hbase)⟩
  · have key : ∀ (i : Nat) (u : Option Addr × Nat × Nat), ss[i]? = some u → Ap (sl3 u) (sl3 s) := fun i u hu => by
      have hlt := (List.getElem?_eq_some_iff.1 hu).1
      obtain ⟨b', hb'⟩ : ∃ b', bs[i]? = some b' := ⟨_, List.getElem?_eq_getElem (by omega)⟩
      have a2 := (h3 i u b' hu hb').2
      unfold Ap
      rcases hx : (sl3 u).ownBlock with _ | g
      · exact .inl rfl
      · right
        intro e
        have := (a2.lt g hx).2
        have := (hin.lt g e.symm).1
        omega
    rcases Nat.lt_or_ge i ss.length with hi | hi <;> rcases Nat.lt_or_ge j ss.length with hj | hj
    · rw [List.getElem?_append_left hi] at hu
      rw [List.getElem?_append_left hj] at hx
      exact h4 i j u x hij hu hx
    · rw [List.getElem?_append_left hi] at hu
      have : j = ss.length := by have := (List.getElem?_eq_some_iff.1 hx).1; simp at this; omega
      subst this
      rw [List.getElem?_append_right (Nat.le_refl _)] at hx
      simp at hx; subst hx
      exact key i u hu
    · rw [List.getElem?_append_left hj] at hx
      have : i = ss.length := by have := (List.getElem?_eq_some_iff.1 hu).1; simp at this; omega
      subst this
      rw [List.getElem?_append_right (Nat.le_refl _)] at hu
      simp at hu; subst hu
      exact (key j x hx).symm
    · have e1 : i = ss.length := by have := (List.getElem?_eq_some_iff.1 hu).1; simp at this; omega
      have e2 : j = ss.length := by have := (List.getElem?_eq_some_iff.1 hx).1; simp at this; omega
      omega
/-- a slice appended to, and stored in its place -/
theorem OwnN.upd {w w0 w1 : World} {base m c g i : Nat} {bs : List β} {b b' : β} {s s' : Option Addr × Nat × Nat} (hTi : To ≠ Ti) (h : OwnN f n To Ti sz w base (.slice (some ⟨g, 0, none⟩) m c) bs) (hi : bs[i]? = some b)
    (hs : w.cell? ⟨g, i, none⟩ = some (sl3 s)) (hs' : s'.2.1 = n b') (hown : w1.ownsRow base Ti sz (sl3 s') (n b') (f b')) (hb0 : Below w.heap.size w w0) (hg : w0.grownBy w1 (sl3 s).ownBlock) (hor : (sl3 s').ownBlock = (sl3 s).ownBlock ∨ (sl3 s').ownBlock = some w0.heap.size) :
    (w1.cell? ⟨g, i, none⟩ = some (sl3 s) ∧ w1.frozen? ⟨g, i, none⟩ = false) ∧ OwnN f n To Ti sz (w1.setCell ⟨g, i, none⟩ (sl3 s')) base (.slice (some ⟨g, 0, none⟩) m c) (bs.set i b') := by
  obtain ⟨ss, h1, h2, h3, h4⟩ := h
  have hm : m = ss.length := by
    obtain ⟨A', c', e, _⟩ := own_form h2
    simp only [Value.slice.injEq] at e
    exact e.2.1
  subst hm
  have hlt : i < ss.length := by rw [h1]; exact (List.getElem?_eq_some_iff.1 hi).1
  obtain ⟨s0, hs0⟩ : ∃ s0, ss[i]? = some s0 := ⟨_, List.getElem?_eq_getElem hlt⟩
  have hsl : (ss.map sl3).length = ss.length * 1 := by simp
  have hc := h2.cellAt i (by rw [Nat.mul_one]; exact hlt)
  rw [List.getElem?_map, hs0, hs] at hc
  have hss : sl3 s = sl3 s0 := by simpa using hc
  have a0 := (h3 i s0 b hs0 hi).2
  have h2a := own_bel h2 hb0
  have a0a := own_bel a0 hb0
  have hg0 : w0.grownBy w1 (sl3 s0).ownBlock := by rw [← hss]; exact hg
  have h21 := own_grown h2a hg0 (Ap.ne (own_type h2a a0a hTi))
  have h22 := (h21.stored i (sl3 s')).1
  have apo : ∀ {k : Nat} {u : Value} {xs : List Value}, w1.ownsRow base Ti sz u k xs → (w1.setCell ⟨g, i, none⟩ (sl3 s')).ownsRow base Ti sz u k xs := fun hu =>
    own_grown hu (grown_set w1 g i (sl3 s')) (fun k hk e => Ap.ne (own_type hu h21 (Ne.symm hTi)) k hk (by simpa [Value.ownBlock] using e))
  have hc1 := h21.cellAt i (by rw [Nat.mul_one]; exact hlt)
  rw [List.getElem?_map, hs0, ← show some (sl3 s) = Option.map sl3 (some s0) by rw [hss]; rfl] at hc1
  refine ⟨⟨hc1, h21.frozenAt i⟩, ss.set i s', by simp [h1], ?_, fun j u y hu hy => ?_, fun j k u x hjk hu hx => ?_⟩
  · rw [List.length_set, List.map_set]; exact h22
  · rw [List.getElem?_set] at hu hy
    by_cases hij : i = j
    · subst hij
      rw [if_pos rfl, if_pos hlt] at hu
      rw [if_pos rfl, if_pos (by omega)] at hy
      simp at hu hy
      subst hu hy
      exact ⟨hs', apo hown⟩
    · rw [if_neg hij] at hu hy
      obtain ⟨a1, a2⟩ := h3 j u y hu hy
      exact ⟨a1, apo (own_grown (own_bel a2 hb0) hg0 (Ap.ne (h4 j i u s0 (Ne.symm hij) hu hs0)))⟩
  · have key : ∀ (j : Nat) (u : Option Addr × Nat × Nat), i ≠ j → ss[j]? = some u → Ap (sl3 u) (sl3 s') := fun j u hij hu => by
      have hj := (List.getElem?_eq_some_iff.1 hu).1
      obtain ⟨y, hy⟩ : ∃ y, bs[j]? = some y := ⟨_, List.getElem?_eq_getElem (by omega)⟩
      exact (h4 j i u s0 (Ne.symm hij) hu hs0).app (h3 j u y hu hy).2 (by rw [← hss]; exact hor) hb0.size
    rw [List.getElem?_set] at hu hx
    by_cases hij : i = j
    · subst hij
      rw [if_pos rfl, if_pos hlt] at hu
      rw [if_neg hjk] at hx
      simp at hu
      subst hu
      exact (key k x hjk hx).symm
    · rw [if_neg hij] at hu
      by_cases hik : i = k
      · subst hik
        rw [if_pos rfl, if_pos hlt] at hx
        simp at hx
        subst hx
        exact key j u hij hu
      · rw [if_neg hik] at hx
        exact h4 j k u x hjk hu hx
end
abbrev RdVV := RdN vcells (List.length (α := V))
abbrev RdBB := RdN cells (List.length (α := UInt8))
abbrev OwnVV (w : World) (base : Nat) (v : Value) (l : List (List V)) : Prop := OwnN vcells List.length 37 46 3 w base v l
abbrev OwnBB (w : World) (base : Nat) (v : Value) (l : List (List UInt8)) : Prop := OwnN cells List.length 22 5 1 w base v l
/-- what is owned at place i -/
theorem OwnN.at {β : Type} {f : β → List Value} {n : β → Nat} {To Ti : TypeId} {sz : Nat} {w : World} {base m c g i : Nat} {bs : List β} {b : β} (h : OwnN f n To Ti sz w base (.slice (some ⟨g, 0, none⟩) m c) bs) (hi : bs[i]? = some b) :
    ∃ s : Option Addr × Nat × Nat, w.cell? ⟨g, i, none⟩ = some (sl3 s) ∧ w.frozen? ⟨g, i, none⟩ = false ∧ s.2.1 = n b ∧ n b ≤ s.2.2 ∧ w.ownsRow base Ti sz (sl3 s) (n b) (f b) := by
  obtain ⟨ss, h1, h2, h3, h4⟩ := h
  have hm : m = ss.length := by
    obtain ⟨A', c', e, _⟩ := own_form h2
    simp only [Value.slice.injEq] at e
    exact e.2.1
  subst hm
  have hlt : i < ss.length := by rw [h1]; exact (List.getElem?_eq_some_iff.1 hi).1
  obtain ⟨s0, hs0⟩ : ∃ s0, ss[i]? = some s0 := ⟨_, List.getElem?_eq_getElem hlt⟩
  have hc := h2.cellAt i (by rw [Nat.mul_one]; exact hlt)
  rw [List.getElem?_map, hs0] at hc
  obtain ⟨a1, a2⟩ := h3 i s0 b hs0 hi
  refine ⟨s0, hc, h2.frozenAt i, a1, ?_, a2⟩
  obtain ⟨s1, s2, s3⟩ := s0
  dsimp only at a1 a2 ⊢
  subst a1
  exact own_le a2
/-- What a call that answers rows of values leaves. -/
def RetVV (w : World) (cs : List (List V)) (e : Ending) (w' : World) : Prop :=
  ∃ A c, e = .returned (.slice A cs.length c) ∧ OwnVV w' w.heap.size (.slice A cs.length c) cs ∧ Below w.heap.size w w'
theorem retVV_of {w w' : World} {cs : List (List V)} {v : Value} (h : OwnVV w' w.heap.size v cs) (hb : Below w.heap.size w w') : RetVV w cs (.returned v) w' := by
  obtain ⟨A, c, rfl, _⟩ := h.form
  exact ⟨A, c, rfl, h, hb⟩
theorem Try.infoVs : (Try.prog.info? 37).map (fun i => (i.zero, i.size, i.bytes)) = some (some (.slice none 0 0), 1, 24) := by kernel_rfl
theorem Try.infoBs : (Try.prog.info? 22).map (fun i => (i.zero, i.size, i.bytes)) = some (some (.slice none 0 0), 1, 24) := by kernel_rfl
theorem El_vs : El Try.prog 23 37 1 24 := el_of Try.underlying23 Try.infoVs rfl (by decide)
theorem El_bs : El Try.prog 26 22 1 24 := el_of Try.underlying26 Try.infoBs rfl (by decide)
/-- make([][]Value, n) -/
theorem make_vv (w : World) (n : Nat) (hn : n ≤ 1000000000) : ∃ w1, (Instr.makeSlice 23 (.int .i64 (n : Int)) (.int .i64 (n : Int))).run Try.prog w = .ok (.slice (some ⟨w.heap.size, 0, none⟩) n n) w1 ∧
    OwnVV w1 w.heap.size (.slice (some ⟨w.heap.size, 0, none⟩) n n) (List.replicate n []) ∧ Below w.heap.size w w1 := by
  obtain ⟨i0, hi, hz0, hz1, hz2⟩ := info_parts Try.infoVs
  obtain ⟨w1, hmk, hown, hg⟩ := run_make_full (P := Try.prog) w w.heap.size 23 37 i0 (.slice none 0 0) 1 Try.underlying23 hi hz0 hz1 .i64 .i64 n (by rw [hz2]; omega) (by unfold maxLen; omega) (Nat.le_refl _)
  rw [show (Value.slice none 0 0).cells = #[.slice none 0 0] from rfl, toList_madeCells_one, Nat.mul_one] at hown
  refine ⟨w1, hmk, ⟨List.replicate n (none, 0, 0), by simp, ?_, fun i s b hs hb => ?_, fun i j s u hij hs hu => ?_⟩, (Below.refl _ w).grown hg (Nat.le_refl _) (by simp)⟩
  · rw [List.length_replicate, List.map_replicate]; exact hown
  · have h1 := List.eq_of_mem_replicate (List.mem_of_getElem? hs)
    have h2 := List.eq_of_mem_replicate (List.mem_of_getElem? hb)
    subst h1 h2
    exact ⟨rfl, World.ownsRow_nil _ _ _ _⟩
  · have h1 := List.eq_of_mem_replicate (List.mem_of_getElem? hs)
    subst h1
    exact .inl rfl
end Go.Proofs.Ythkpgjcnnfdibaa

/-! Slices of slices of values, and of bytes, that come in: how they are opened. No condition. -/
namespace Go.Proofs.Ythkpgjcnnfdibaa
open Go.ChangeShapes Go.WideShapes Go.ChangeAt Go.RowKit Go.Joins Go.Deep
set_option linter.unusedVariables false

section
variable {H : Type} {enc : TypeId × Value → H} {P : Program} {W : World} {base : Nat} {spare : Nat → Bool} {held : Bool}
theorem core_bytes {t e : TypeId} {fuel : Nat} {cs : List Value} {x : DataW H × List MemPlace} (ht : P.underlying t = some (.slice e)) (he : P.underlying e = some (.int .u8)) (hc : P.cellsOf e = 1) (hf : DataW.trod enc P W base spare held fuel t cs = some x) :
    ∃ (A : Option Addr) (l : List UInt8) (c : Nat), cs = [.slice A l.length c] ∧ Rd W W.heap.size A (cells l) ∧ l.length ≤ c ∧ c ≤ maxLen := by
  rcases open_ints ht he hc hf with ⟨hcs, _⟩ | ⟨a, len, cap, zs, hcs, _, hlc, hcm, hlen, _, hcell, hwf⟩
  · exact ⟨none, [], 0, hcs, .inl rfl, by simp, by simp⟩
  · have hl : len ≤ zs.length := by rw [hlen]; split <;> omega
    obtain ⟨l, h1, h2⟩ := bytes_list (zs.take len) fun z hz => hwf z (List.mem_of_mem_take hz)
    have hll : l.length = len := by rw [h1, List.length_take]; omega
    refine ⟨some a, l, cap, by rw [hll]; exact hcs, ?_, by omega, hcm⟩
    show Rd W W.heap.size (some a) (l.map fun c => Value.int .u8 (c.toNat : Int))
    rw [← h2]
    refine rd_of fun i u hu => ?_
    rw [List.getElem?_map] at hu
    obtain ⟨z, hz, rfl⟩ := Option.map_eq_some_iff.1 hu
    have hi : i < len := by
      have := (List.getElem?_eq_some_iff.1 hz).1
      rw [List.length_take] at this; omega
    rw [List.getElem?_take, if_pos hi] at hz
    have := hcell i (by omega)
    rw [this, List.getD_eq_getElem?_getD, hz]
    rfl
theorem core_vals {t e : TypeId} {f0 f1 f2 : Field} {fuel : Nat} {cs : List Value} {x : DataW H × List MemPlace} (ht : P.underlying t = some (.slice e)) (he : P.underlying e = some (.struct #[f0, f1, f2]))
    (hone : oneCellFields P #[f0, f1, f2] = true) (hC : P.cellsOf e = 3) (u0 : P.underlying f0.type = some (.int .u8)) (u1 : P.underlying f1.type = some (.int .i64)) (u2 : P.underlying f2.type = some .string)
    (hf : DataW.trod enc P W base spare held fuel t cs = some x) :
    ∃ (A : Option Addr) (l : List V) (c : Nat), cs = [.slice A l.length c] ∧ Rd W W.heap.size A (vcells l) ∧ l.length ≤ c ∧ c ≤ maxLen ∧ ∀ x ∈ l, vok x := by
  rcases open_slice ht hf with ⟨hcs, _⟩ | ⟨a, len, cap, m, n, D, Pl, hcs, _, hlc, hcm, hm, _, hi⟩
  · exact ⟨none, [], 0, hcs, .inl rfl, by simp, by simp, by simp⟩
  · have hl : len ≤ m := by rw [hm]; split <;> omega
    have key : ∀ i, i < len → ∃ x : V, vok x ∧ W.cell? (a.add (i * 3)) = some (.int .u8 (x.k : Int)) ∧ W.cell? ((a.add (i * 3)).add 1) = some (.int .i64 x.n) ∧ W.cell? ((a.add (i * 3)).add 2) = some (txt x.t) := by
      intro i him
      obtain ⟨cs', hc, ht'⟩ := hi i (by omega)
      rw [hC] at hc
      obtain ⟨_, hcl, hat⟩ := World.cells?_some hc
      obtain ⟨xs, n', _, _, _, hxl, hg⟩ := DataW.trod_struct he ht'
      match cs', hcl with
      | [c0, c1, c2], _ =>
        obtain ⟨o0, k0⟩ := hone_of hone 0 f0 rfl
        obtain ⟨o1, k1⟩ := hone_of hone 1 f1 rfl
        obtain ⟨o2, k2⟩ := hone_of hone 2 f2 rfl
        match xs, hxl with
        | [y0, y1, y2], _ =>
          have g0 : DataW.trod enc P W base spare held n' f0.type [c0] = some y0 := by simpa [Value.cells, o0, k0] using hg 0 f0 rfl
          have g1 : DataW.trod enc P W base spare held n' f1.type [c1] = some y1 := by simpa [Value.cells, o1, k1] using hg 1 f1 rfl
          have g2 : DataW.trod enc P W base spare held n' f2.type [c2] = some y2 := by simpa [Value.cells, o2, k2] using hg 2 f2 rfl
          obtain ⟨a0, e0, _, w0⟩ := DataW.trod_int u0 g0
          obtain ⟨a1, e1, _, w1⟩ := DataW.trod_int u1 g1
          obtain ⟨s2, e2, _, w2⟩ := DataW.trod_string u2 g2
          simp at e0 e1 e2
          subst e0 e1 e2
          have b0 := u8_bd w0
          have b1 := i64_bd w1
          have hs : (⟨s2.data.toList.toArray⟩ : ByteArray) = s2 := by cases s2; simp
          refine ⟨⟨a0.toNat, a1, s2.data.toList⟩, ⟨by show a0.toNat < 256; omega, b1, by show s2.data.toList.length ≤ maxLen; rw [Array.length_toList]; exact w2⟩, ?_, ?_, ?_⟩
          · have := hat 0 (by omega)
            rw [show (a.add (i * 3)).add 0 = a.add (i * 3) by simp [Addr.add]] at this
            rw [this]
            show some (Value.int .u8 a0) = some (Value.int .u8 ((a0.toNat : Nat) : Int))
            rw [Int.toNat_of_nonneg b0.1]
          · exact hat 1 (by omega)
          · rw [hat 2 (by omega)]
            show some (Value.string s2) = some (Value.string ⟨s2.data.toList.toArray⟩)
            rw [hs]
    obtain ⟨l, h1, h2⟩ := pick_list _ len key
    refine ⟨some a, l, cap, by rw [h1]; exact hcs, rd_of ?_, by omega, hcm, fun x hx => ?_⟩
    · intro j u hu
      rw [vcells_get] at hu
      obtain ⟨x, hx, hu⟩ := Option.bind_eq_some_iff.1 hu
      obtain ⟨_, q0, q1, q2⟩ := h2 _ _ hx
      have hj : j = j / 3 * 3 + j % 3 := by omega
      have hadd : ∀ q, (a.add (j / 3 * 3)).add q = a.add (j / 3 * 3 + q) := fun q => Go.Deep.add_add _ _ _
      rw [hadd] at q1 q2
      have h3 : j % 3 < 3 := Nat.mod_lt _ (by omega)
      rcases (show j % 3 = 0 ∨ j % 3 = 1 ∨ j % 3 = 2 by omega) with e | e | e
      · rw [e] at hu hj; rw [hj, Nat.add_zero, q0]; simpa using hu
      · rw [e] at hu hj; rw [hj, q1]; simpa using hu
      · rw [e] at hu hj; rw [hj, q2]; simpa using hu
    · obtain ⟨i, hi⟩ := List.getElem?_of_mem hx
      exact (h2 i x hi).1
theorem core_nested {β : Type} {f : β → List Value} {n : β → Nat} (good : β → Prop) {r : Reach} {b0 : Nat} {t e : TypeId} {v : Value} {d : DataW H} {p : List MemPlace} (ht : P.underlying t = some (.slice e)) (hc : P.cellsOf e = 1)
    (inner : ∀ (fuel : Nat) (cs : List Value) (x : DataW H × List MemPlace), DataW.trod enc P W base spare held fuel e cs = some x → ∃ (A : Option Addr) (b : β) (c : Nat), cs = [.slice A (n b) c] ∧ Rd W W.heap.size A (f b) ∧ n b ≤ c ∧ c ≤ maxLen ∧ good b)
    (hv : Value.okWide P W r b0 t v) (h : DataW.Trod enc P W base spare held t v d p) :
    ∃ (A : Option Addr) (bs : List β) (c : Nat), v = .slice A bs.length c ∧ RdN f n W W.heap.size A bs ∧ (bs.length ≤ c ∧ c ≤ maxLen) ∧ ∀ b ∈ bs, good b := by
  obtain ⟨A, len, c, rfl⟩ := okWide_slice ht hv
  obtain ⟨fuel, hf⟩ := h
  rcases open_slice1 ht hc hf with ⟨hcs, _⟩ | ⟨a, len', cap, m, k, V, D, Pl, hcs, _, hlc, hcm, hm, _, hi⟩
  · simp [Value.cells] at hcs
    obtain ⟨rfl, rfl, rfl⟩ := hcs
    exact ⟨none, [], 0, rfl, RdN.nil _ _ _, by simp, by simp⟩
  · simp [Value.cells] at hcs
    obtain ⟨rfl, rfl, rfl⟩ := hcs
    have hl : len ≤ m := by rw [hm]; split <;> omega
    have key : ∀ i, i < len → ∃ x : (Option Addr × Nat × Nat) × β, W.cell? (a.add i) = some (sl3 x.1) ∧ x.1.2.1 = n x.2 ∧ n x.2 ≤ x.1.2.2 ∧ Rd W W.heap.size x.1.1 (f x.2) ∧ good x.2 := by
      intro i him
      obtain ⟨q1, q2⟩ := hi i (by omega)
      obtain ⟨A', b, c', e1, e2, e3, e4, e5⟩ := inner _ _ _ q2
      simp only [List.cons.injEq, and_true] at e1
      exact ⟨((A', n b, c'), b), by rw [q1, e1], rfl, e3, e2, e5⟩
    obtain ⟨l, h1, h2⟩ := pick_list _ len key
    refine ⟨some a, l.map (·.2), c, by rw [List.length_map, h1], ⟨l.map (·.1), by simp, ?_, fun i s b hs hb => ?_⟩, ⟨by rw [List.length_map]; omega, hcm⟩, fun b hb => ?_⟩
    · refine rd_of fun i u hu => ?_
      rw [List.getElem?_map, List.getElem?_map] at hu
      cases hx : l[i]? with
      | none => rw [hx] at hu; cases hu
      | some x =>
        rw [hx] at hu
        simp at hu
        rw [← hu]; exact (h2 i x hx).1
    · rw [List.getElem?_map] at hs hb
      cases hx : l[i]? with
      | none => rw [hx] at hs; cases hs
      | some x =>
        rw [hx] at hs hb
        simp at hs hb
        subst hs hb
        obtain ⟨_, a1, a2, a3, _⟩ := h2 i x hx
        exact ⟨a1, a2, a3⟩
    · obtain ⟨x, hx, rfl⟩ := List.mem_map.1 hb
      obtain ⟨i, hi⟩ := List.getElem?_of_mem hx
      exact (h2 i x hi).2.2.2.2
theorem open_rows {r : Reach} {b0 : Nat} {t e e2 : TypeId} {f0 f1 f2 : Field} {v : Value} {d : DataW H} {p : List MemPlace} (ht : P.underlying t = some (.slice e)) (hc : P.cellsOf e = 1) (ht2 : P.underlying e = some (.slice e2)) (he : P.underlying e2 = some (.struct #[f0, f1, f2]))
    (hone : oneCellFields P #[f0, f1, f2] = true) (hC : P.cellsOf e2 = 3) (u0 : P.underlying f0.type = some (.int .u8)) (u1 : P.underlying f1.type = some (.int .i64)) (u2 : P.underlying f2.type = some .string)
    (hv : Value.okWide P W r b0 t v) (h : DataW.Trod enc P W base spare held t v d p) :
    ∃ (A : Option Addr) (bs : List (List V)) (c : Nat), v = .slice A bs.length c ∧ RdVV W W.heap.size A bs ∧ (bs.length ≤ c ∧ c ≤ maxLen) ∧ ∀ b ∈ bs, b.length ≤ maxLen ∧ ∀ x ∈ b, vok x :=
  core_nested (fun b : List V => b.length ≤ maxLen ∧ ∀ x ∈ b, vok x) ht hc (fun fuel cs x hx => by
    obtain ⟨A, l, c, h1, h2, h3, h4, h5⟩ := core_vals ht2 he hone hC u0 u1 u2 hx
    exact ⟨A, l, c, h1, h2, h3, h4, by omega, h5⟩) hv h
theorem open_pieces {r : Reach} {b0 : Nat} {t e e2 : TypeId} {v : Value} {d : DataW H} {p : List MemPlace} (ht : P.underlying t = some (.slice e)) (hc : P.cellsOf e = 1) (ht2 : P.underlying e = some (.slice e2)) (he : P.underlying e2 = some (.int .u8)) (hc2 : P.cellsOf e2 = 1)
    (hv : Value.okWide P W r b0 t v) (h : DataW.Trod enc P W base spare held t v d p) :
    ∃ (A : Option Addr) (bs : List (List UInt8)) (c : Nat), v = .slice A bs.length c ∧ RdBB W W.heap.size A bs ∧ (bs.length ≤ c ∧ c ≤ maxLen) ∧ ∀ b ∈ bs, b.length ≤ maxLen :=
  core_nested (fun b : List UInt8 => b.length ≤ maxLen) ht hc (fun fuel cs x hx => by
    obtain ⟨A, l, c, h1, h2, h3, h4⟩ := core_bytes ht2 he hc2 hx
    exact ⟨A, l, c, h1, h2, h3, h4, by omega⟩) hv h
end
end Go.Proofs.Ythkpgjcnnfdibaa

/-! The walks of slices.Concat, Clone, Equal over bytes, and of segment.part (layer 7). No condition but sizes. -/
namespace Go.Proofs.Ythkpgjcnnfdibaa
open Go.RowKit Go.Maps
set_option linter.unusedVariables false
set_option linter.unusedSimpArgs false

set_option maxHeartbeats 2000000 in
set_option maxRecDepth 100000 in
theorem concat_big (A : Option Addr) (c : Nat) (l : List (Option Addr × Nat × List UInt8)) (w : World) (hr : Rd w w.heap.size A (l.map slB)) (hs : ∀ s ∈ l, Rd w w.heap.size s.1 (cells s.2.2)) (hl : l.length ≤ 1000000000) (ht : (bsB l).length ≤ 4611686018) :
    Calls Try.prog 62 #[.slice A l.length c] w (RetB w (bsB l)) := by
  have HR := Lib.hid hr
  have HS := Lib.hid hs
  clear hr hs
  go_enter Try.func62, Try.ntmps62
  go_wp2
  go_loopw [3, 11] (fun v3 v11 wr => ∃ k : Nat, k ≤ l.length ∧ v11 = .int .i64 k ∧ v3 = .int .i64 ((bsB (l.take k)).length : Nat) ∧ w = wr) (fun _ v11 _ => l.length - (intOf v11).toNat)
  case atStart => exact ⟨0, by omega, rfl, rfl, rfl⟩
  case round =>
    obtain ⟨k, hk, rfl, rfl, rfl⟩ := hrel
    by_cases hlt : k < l.length
    case pos =>
      obtain ⟨s, hs⟩ : ∃ s, l[k]? = some s := ⟨_, List.getElem?_eq_getElem hlt⟩
      have hkI : (k : Int) < (l.length : Int) := by omega
      obtain ⟨gb, go, rfl, hgb, hat⟩ := HR.out.at (k := k) (by simpa using hlt)
      have q := hat k (slB s) (by rw [List.getElem?_map, hs]; rfl)
      have hsn := bsB_snoc hs
      have hle := bsB_le l (k + 1)
      rw [hsn, List.length_append] at hle
      obtain ⟨m, hm⟩ : ∃ m, m = (bsB (l.take k)).length := ⟨_, rfl⟩
      rw [← hm] at hle ⊢
      have HM := Lib.hid hm
      have HSN := Lib.hid hsn
      have hneg : ¬ ((m : Int) + (s.2.2.length : Int) < 0) := by omega
      clear hm hsn hs hat
      go_wp2_with fail
      go_roundw
      case rel => exact ⟨k + 1, by omega, by go_num, by rw [HSN.out, List.length_append, ← HM.out]; go_num, by trivial⟩
      case measure => simp [intOf]; omega
    have hkk : k = l.length := by omega
    have hge : (l.length : Int) ≤ (k : Int) := by omega
    rw [hkk, List.take_length]
    have hG := grow_any (bsB l).length (by omega) w
    have HG := Lib.hid hG
    clear hG hkk
    go_wp2_with fail
    refine HG.out.mono ?_; rintro e w1 ⟨v1, rfl, hown1, hb1⟩
    go_wp2_with fail
    go_loopw [6, 27] (fun v6 v27 wr => ∃ k : Nat, k ≤ l.length ∧ v27 = .int .i64 k ∧ wr.ownsRow w.heap.size 5 1 v6 (bsB (l.take k)).length (cells (bsB (l.take k))) ∧ Below w.heap.size w wr) (fun _ v27 _ => l.length - (intOf v27).toNat)
    case atStart => exact ⟨0, by omega, rfl, hown1, hb1⟩
    case round =>
      obtain ⟨k, hk, rfl, hown, hbel⟩ := hrel
      by_cases hlt : k < l.length
      case neg =>
        have hkk : k = l.length := by omega
        rw [hkk, List.take_length] at hown
        clear hkk hown1 hb1
        go_wp2_with fail
        go_ret
        exact retB_of hown hbel
      obtain ⟨s, hs⟩ : ∃ s, l[k]? = some s := ⟨_, List.getElem?_eq_getElem hlt⟩
      have hkI : (k : Int) < (l.length : Int) := by omega
      obtain ⟨gb, go, rfl, hgb, hat⟩ := HR.out.at (k := k) (by simpa using hlt)
      have q0 := hat k (slB s) (by rw [List.getElem?_map, hs]; rfl)
      have q := (hbel.cell (p := ⟨gb, go + k, none⟩) hgb).trans q0
      have hrs := (HS.out s (List.mem_of_getElem? hs)).below hbel
      have hsn := bsB_snoc hs
      have hle := bsB_le l (k + 1)
      rw [hsn, List.length_append] at hle
      have HSN := Lib.hid hsn
      clear hsn hs hat q0 hown1 hb1
      have hcl : (cells s.2.2).length = s.2.2.length * 1 := by simp
      go_wp2_with (at_builtin; refine wpList_app El_u8 rfl _ _ rfl hown rfl rfl hrs hcl (cells_one _) (by unfold maxLen; omega) (by omega) hbel.size ?_; intro v4 w4 hown4 hg4 _)
      go_roundw
      case rel => exact ⟨k + 1, by omega, by go_num, by rw [HSN.out, List.length_append, cells_append]; exact hown4, hbel.trans (own_below hown hg4 hbel.size)⟩
      case measure => simp [intOf]; omega
theorem cat_any (A : Option Addr) (c : Nat) (ps : List (List UInt8)) (w : World) (hr : RdBB w w.heap.size A ps) (hl : ps.length ≤ 1000000000) (ht : ps.flatten.length ≤ 4611686018) :
    Calls Try.prog 62 #[.slice A ps.length c] w (RetB w ps.flatten) := by
  obtain ⟨ss, h1, h2, h3⟩ := hr
  have key : ∀ (ss : List (Option Addr × Nat × Nat)) (ps : List (List UInt8)), ss.length = ps.length → (∀ (i : Nat) (s : Option Addr × Nat × Nat) (b : List UInt8), ss[i]? = some s → ps[i]? = some b → s.2.1 = b.length ∧ b.length ≤ s.2.2 ∧ Rd w w.heap.size s.1 (cells b)) →
      ∃ l : List (Option Addr × Nat × List UInt8), l.length = ps.length ∧ l.map slB = ss.map sl3 ∧ bsB l = ps.flatten ∧ ∀ s ∈ l, Rd w w.heap.size s.1 (cells s.2.2) := by
    intro ss
    induction ss with
    | nil => intro ps h _; exact ⟨[], by simpa using h, rfl, by rw [show ps = [] from List.eq_nil_of_length_eq_zero (by simpa using h.symm)]; rfl, by simp⟩
    | cons s ss ih =>
      intro ps h hh
      match ps, h with
      | b :: ps, h =>
        obtain ⟨l, e1, e2, e3, e4⟩ := ih ps (by simpa using h) fun i s b hs hb => hh (i + 1) s b (by simpa using hs) (by simpa using hb)
        obtain ⟨a1, a2, a3⟩ := hh 0 s b rfl rfl
        refine ⟨(s.1, s.2.2, b) :: l, by simp [e1], ?_, ?_, fun u hu => ?_⟩
        · rw [List.map_cons, List.map_cons, e2]
          congr 1
          show Value.slice s.1 b.length s.2.2 = Value.slice s.1 s.2.1 s.2.2
          rw [a1]
        · rw [List.flatten_cons, ← e3]; rfl
        · rcases List.mem_cons.1 hu with rfl | hu
          · exact a3
          · exact e4 u hu
  obtain ⟨l, e1, e2, e3, e4⟩ := key ss ps h1 h3
  have := concat_big A c l w (by rw [e2]; exact h2) e4 (by omega) (by rw [e3]; exact ht)
  rw [e1, e3] at this
  exact this
theorem lit0B (w : World) : (w.alloc (.cells #[] 5)).ownsRow w.heap.size 5 1 (.slice (some ⟨w.heap.size, 0, none⟩) 0 0) 0 [] := World.ownsRow_lit w #[] 0 (Nat.le_refl _) (by unfold maxLen; omega) rfl
set_option maxRecDepth 100000 in
theorem cloneB_any (B : Nat) (A : Option Addr) (c : Nat) (l : List UInt8) (w : World) (hr : Rd w B A (cells l)) (hB : B ≤ w.heap.size) (hl : l.length ≤ 4000000000) :
    Calls Try.prog 32 #[.slice A l.length c] w (RetB w l) := by
  have hnil := fun (w : World) (a : Option Addr) (n c : Nat) => Lib.run_eql_slice_nil (P := Try.prog) w 22 5 a n c 0 0 Try.underlying22
  have hcl : (cells l).length = l.length * 1 := by simp
  rcases A with _ | ad
  · have hn : l = [] := by
      rcases hr with h | ⟨b, o, h, _⟩
      · have := congrArg List.length h
        exact List.eq_nil_of_length_eq_zero (by simp at this; simp [this])
      · cases h
    subst hn
    go_enter Try.func32, Try.ntmps32
    go_wp2
    go_ret
    exact retB_of (World.ownsRow_nil _ _ _ _) (Below.refl _ _)
  · go_enter Try.func32, Try.ntmps32
    go_wp2_with (at_builtin; refine wpList_app El_u8 rfl _ _ rfl (lit0B w) rfl rfl (hr.alloc hB _) hcl (cells_one l) (by unfold maxLen; omega) (by omega) (by simp) ?_; intro v4 w4 hown4 hg4 _; rw [Nat.zero_add, List.nil_append] at hown4)
    have hb4 : Below w.heap.size w w4 := ((Below.refl _ _).alloc (Nat.le_refl _) _).trans (own_below (lit0B w) hg4 (by simp))
    go_ret
    exact retB_of hown4 hb4
theorem rd_byte {w : World} {B : Nat} {A : Option Addr} {l : List UInt8} (h : Rd w B A (cells l)) {i : Nat} {v : UInt8} (hi : l[i]? = some v) : ∃ b o, A = some ⟨b, o, none⟩ ∧ b < B ∧ w.cell? ⟨b, o + i, none⟩ = some (.int .u8 (v.toNat : Int)) := by
  have hlt : i < l.length := (List.getElem?_eq_some_iff.1 hi).1
  obtain ⟨b, o, hA, hb, hc⟩ := h.at (k := i) (by simpa using hlt)
  exact ⟨b, o, hA, hb, hc _ _ (by rw [List.getElem?_map, hi]; rfl)⟩
set_option maxRecDepth 100000 in
theorem equalB_any (B : Nat) (A A' : Option Addr) (c c' : Nat) (l m : List UInt8) (w : World) (hl : Rd w B A (cells l)) (hm : Rd w B A' (cells m)) (hB : B ≤ w.heap.size) (hll : l.length ≤ maxLen) :
    Calls Try.prog 68 #[.slice A l.length c, .slice A' m.length c'] w fun e w' => e = .returned (.bool (decide (l = m))) ∧ Below w.heap.size w w' := by
  by_cases hlm : l.length = m.length
  case neg =>
    have he : decide (l = m) = false := by
      simp only [decide_eq_false_iff_not]; rintro rfl; exact hlm rfl
    have HE := Lib.hid he
    have hI : ((l.length : Int) != (m.length : Int)) = true := by simp; omega
    clear he hlm
    go_enter Try.func68, Try.ntmps68
    go_wp2
    go_ret
    exact ⟨by rw [HE.out]; rfl, by go_grown⟩
  have HLM := Lib.hid hlm
  obtain ⟨n, hn⟩ : ∃ n, n = l.length := ⟨_, rfl⟩
  have hn2 : m.length = n := by omega
  rw [← hn, hn2]
  have HN := Lib.hid hn
  have HN2 := Lib.hid hn2
  rw [← hn] at hll
  clear hlm hn hn2
  unfold maxLen at hll
  go_enter Try.func68, Try.ntmps68
  go_wp2
  go_loopw [13] (fun vs wr => ∃ k : Nat, k ≤ n ∧ vs = .int .i64 k ∧ l.take k = m.take k ∧ Below w.heap.size w wr) (fun vs _ => n - (intOf vs).toNat)
  case atStart => exact ⟨0, by omega, rfl, rfl, Below.refl _ _⟩
  case round =>
    obtain ⟨k, hk, rfl, htk, hbel⟩ := hrel
    have HTK := Lib.hid htk
    clear htk
    by_cases hlt : k < n
    · have hn1 := HN.out
      have hn2 := HN2.out
      obtain ⟨x, hx⟩ : ∃ v, l[k]? = some v := ⟨_, List.getElem?_eq_getElem (by omega)⟩
      obtain ⟨y, hy⟩ : ∃ v, m[k]? = some v := ⟨_, List.getElem?_eq_getElem (by omega)⟩
      obtain ⟨gb, go, rfl, hgb, q0⟩ := rd_byte hl hx
      obtain ⟨hb, ho, rfl, hhb, p0⟩ := rd_byte hm hy
      have F1 : ∀ w', Below w.heap.size w w' → w'.cell? ⟨gb, go + k, none⟩ = some (.int .u8 (x.toNat : Int)) := fun w' hb => (hb.cell (p := ⟨gb, go + k, none⟩) (by show gb < _; omega)).trans q0
      have F2 : ∀ w', Below w.heap.size w w' → w'.cell? ⟨hb, ho + k, none⟩ = some (.int .u8 (y.toNat : Int)) := fun w' hbw => (hbw.cell (p := ⟨hb, ho + k, none⟩) (by show hb < _; omega)).trans p0
      have hkI : (k : Int) < (n : Int) := by omega
      clear q0 p0 hn1 hn2
      have HX := Lib.hid hx
      have HY := Lib.hid hy
      clear hx hy
      go_wp2_with fail
      refine ah_start 9 (fun w' => Below w.heap.size w w') rfl (by kernel_rfl) hbel.drew ?_ ; intro hS
      (refine mv_val 0 (v := ?_) rfl (by kernel_rfl) (by kernel_rfl) (by kernel_rfl) (fun _ _ _ h => h) (by rfl) hS ?_ ?_; rotate_left; (focus (intro w hSw; (try dsimp only at hSw); (have f1 := F1 w hSw; have f4 := F2 w hSw; have f7 := hlt); go_simp; first | done | with_reducible rfl)); simp only [Act.put, List.setIfInBounds_toArray, List.set_cons_zero, List.set_cons_succ])
      (refine mv_val 1 (v := ?_) rfl (by kernel_rfl) (by kernel_rfl) (by kernel_rfl) (fun _ _ _ h => h) (by rfl) hS ?_ ?_; rotate_left; (focus (intro w hSw; (try dsimp only at hSw); (have f1 := F1 w hSw; have f4 := F2 w hSw; have f7 := hlt); go_simp; first | done | with_reducible rfl)); simp only [Act.put, List.setIfInBounds_toArray, List.set_cons_zero, List.set_cons_succ])
      (refine mv_val 2 (v := ?_) rfl (by kernel_rfl) (by kernel_rfl) (by kernel_rfl) (fun _ _ _ h => h) (by rfl) hS ?_ ?_; rotate_left; (focus (intro w hSw; (try dsimp only at hSw); (have f1 := F1 w hSw; have f4 := F2 w hSw; have f7 := hlt); go_simp; first | done | with_reducible rfl)); simp only [Act.put, List.setIfInBounds_toArray, List.set_cons_zero, List.set_cons_succ])
      (refine mv_val 3 (v := ?_) rfl (by kernel_rfl) (by kernel_rfl) (by kernel_rfl) (fun _ _ _ h => h) (by rfl) hS ?_ ?_; rotate_left; (focus (intro w hSw; (try dsimp only at hSw); (have f1 := F1 w hSw; have f4 := F2 w hSw; have f7 := hlt); go_simp; first | done | with_reducible rfl)); simp only [Act.put, List.setIfInBounds_toArray, List.set_cons_zero, List.set_cons_succ])
      (refine mv_val 4 (v := ?_) rfl (by kernel_rfl) (by kernel_rfl) (by kernel_rfl) (fun _ _ _ h => h) (by rfl) hS ?_ ?_; rotate_left; (focus (intro w hSw; (try dsimp only at hSw); (have f1 := F1 w hSw; have f4 := F2 w hSw; have f7 := hlt); go_simp; first | done | with_reducible rfl)); simp only [Act.put, List.setIfInBounds_toArray, List.set_cons_zero, List.set_cons_succ])
      (refine mv_val 5 (v := ?_) rfl (by kernel_rfl) (by kernel_rfl) (by kernel_rfl) (fun _ _ _ h => h) (by rfl) hS ?_ ?_; rotate_left; (focus (intro w hSw; (try dsimp only at hSw); (have f1 := F1 w hSw; have f4 := F2 w hSw; have f7 := hlt); go_simp; first | done | with_reducible rfl)); simp only [Act.put, List.setIfInBounds_toArray, List.set_cons_zero, List.set_cons_succ])
      (refine mv_val 6 (v := ?_) rfl (by kernel_rfl) (by kernel_rfl) (by kernel_rfl) (fun _ _ _ h => h) (by rfl) hS ?_ ?_; rotate_left; (focus (intro w hSw; (try dsimp only at hSw); (have f1 := F1 w hSw; have f4 := F2 w hSw; have f7 := hlt); go_simp; first | done | with_reducible rfl)); simp only [Act.put, List.setIfInBounds_toArray, List.set_cons_zero, List.set_cons_succ])
      (refine mv_val 7 (v := ?_) rfl (by kernel_rfl) (by kernel_rfl) (by kernel_rfl) (fun _ _ _ h => h) (by rfl) hS ?_ ?_; rotate_left; (focus (intro w hSw; (try dsimp only at hSw); (have f1 := F1 w hSw; have f4 := F2 w hSw; have f7 := hlt); go_simp; first | done | with_reducible rfl)); simp only [Act.put, List.setIfInBounds_toArray, List.set_cons_zero, List.set_cons_succ])
      (refine mv_val 8 (v := ?_) rfl (by kernel_rfl) (by kernel_rfl) (by kernel_rfl) (fun _ _ _ h => h) (by rfl) hS ?_ ?_; rotate_left; (focus (intro w hSw; (try dsimp only at hSw); (have f1 := F1 w hSw; have f4 := F2 w hSw; have f7 := hlt); go_simp; first | done | with_reducible rfl)); simp only [Act.put, List.setIfInBounds_toArray, List.set_cons_zero, List.set_cons_succ])
      refine wpAnyH_done (by kernel_rfl) ?_ _
      by_cases hxy : x = y
      · have hq : ((x.toNat : Int) != (y.toNat : Int)) = false := by simp [hxy]
        have HT2 := Lib.hid (take_more HTK.out HX.out HY.out hxy)
        rw [hq]
        clear hq hxy
        go_wp2_with fail
        go_roundw
        case rel => exact ⟨k + 1, by omega, by go_num, HT2.out, hS⟩
        case measure => simp [intOf]; omega
      · have hq : ((x.toNat : Int) != (y.toNat : Int)) = true := by
          simp only [bne_iff_ne, ne_eq]
          intro h
          exact hxy (UInt8.toNat_inj.1 (by omega))
        have he : decide (l = m) = false := by
          simp only [decide_eq_false_iff_not]
          rintro rfl
          exact hxy (Option.some.inj (HX.out.symm.trans HY.out))
        have HE := Lib.hid he
        rw [hq]
        clear hq hxy he
        go_wp2_with fail
        go_ret
        exact ⟨by rw [HE.out]; rfl, hS⟩
    · have hkn : k = n := by omega
      have he : decide (l = m) = true := by
        have h := HTK.out
        rw [hkn, List.take_of_length_le (by rw [← HN.out]; omega), List.take_of_length_le (by rw [HN2.out]; omega)] at h
        simp [h]
      have HE := Lib.hid he
      subst hkn
      clear he
      go_wp2_with fail
      go_ret
      exact ⟨by rw [HE.out]; rfl, hbel⟩

set_option maxRecDepth 100000 in
theorem part_any (B : Nat) (A A' : Option Addr) (c c' : Nat) (b p : List UInt8) (w : World) (hb : Rd w B A (cells b)) (hp : Rd w B A' (cells p)) (hB : B ≤ w.heap.size) (hl : b.length + p.length ≤ 4200000000) :
    Calls Try.prog 29 #[.slice A b.length c, .slice A' p.length c'] w (RetB w (b ++ part1 p)) := by
  have H0 := Lib.hid (Put_any B A c b p.length (by omega) w hb (by omega))
  have hv := vput_length64 (show p.length < 18446744073709551616 by omega)
  have hw : IntKind.u64.wrap (p.length : Int) = (p.length : Int) := by rw [IntKind.wrap_u64]; omega
  have hcl : (cells p).length = p.length * 1 := by simp
  obtain ⟨X, hX⟩ : ∃ X, X = b ++ vput p.length := ⟨_, rfl⟩
  have hXl : X.length ≤ b.length + 10 := by rw [hX, List.length_append]; omega
  rw [← hX] at H0
  have HX := Lib.hid (show b ++ part1 p = X ++ p by rw [hX]; unfold part1; rw [List.append_assoc])
  have hpp := fun w' (h : Below w.heap.size w w') => hp.below (h.mono hB)
  clear hX hp hb
  go_enter Try.func29, Try.ntmps29
  go_wp2_with fail
  refine H0.out.mono ?_; rintro e w1 ⟨A1, c1, rfl, hown1, hb1⟩
  have hp1 := hpp w1 hb1
  go_wp2_with (at_builtin; refine wpList_app El_u8 rfl _ _ rfl hown1 rfl rfl hp1 hcl (cells_one p) (by unfold maxLen; omega) (by omega) hb1.size ?_; intro v2 w2 hown2 hg2 _)
  have hb2 := hb1.trans (own_below hown1 hg2 hb1.size)
  go_ret
  rw [HX.out]
  rw [← List.length_append, ← cells_append] at hown2
  exact retB_of hown2 hb2
end Go.Proofs.Ythkpgjcnnfdibaa

/- Tools that walks of later layers share: slices of bytes cut, blocks of three cells, tables of functions, results of values, the reference's May and Same. No condition. -/
import Derived.Test.YtfnbckgpldkgmaaKey2
import Derived.Test.YtfnbckgpldkgmaaSl
import Derived.Test.YtfnbckgpldkgmaaMove2
import Derived.Maps.OwnSet
namespace Go.Proofs.Ytfnbckgpldkgmaa
open Go.RowKit Go.Maps
set_option linter.unusedVariables false
set_option linter.unusedSimpArgs false

abbrev nullA : Value := .agg #[.int .u8 0, .int .i64 0, .string ⟨#[]⟩]
/-- 'b[u:]' of bytes that are read. -/
theorem from_any {w : World} {B : Nat} {A : Option Addr} {l : List UInt8} (c u : Nat) (hu : u ≤ l.length) (hc : l.length ≤ c) (hr : Rd w B A (cells l)) :
    ∃ A' c', (∀ w' (z : Int), z = u → (Instr.sliceAt 22 (.slice A l.length c) (some (.int .i64 z)) none none).run Try.prog w' = .ok (.slice A' (l.drop u).length c') w') ∧ Rd w B A' (cells (l.drop u)) ∧ (l.drop u).length ≤ c' := by
  refine ⟨_, _, fun w' z hz => by rw [hz, run_from A l.length c u hu w', List.length_drop], ?_, by rw [List.length_drop]; omega⟩
  have h1 := hr.cut u (c = u) (fun e => by simp; omega)
  unfold cells at *
  rw [List.map_drop]; exact h1
/-- what a reader's first and next bytes are -/
theorem rd_head {w : World} {B : Nat} {A : Option Addr} {d : UInt8} {r : List UInt8} (h : Rd w B A (cells (d :: r))) : ∃ b o, A = some ⟨b, o, none⟩ ∧ b < B ∧ w.cell? ⟨b, o, none⟩ = some (b8 d) := by
  obtain ⟨b, o, hA, hb, hc⟩ := h.at (k := 0) (by simp)
  exact ⟨b, o, hA, hb, by have := hc 0 (b8 d) rfl; rwa [Nat.add_zero] at this⟩
/-- A block of three cells: what they hold, that they may be written, what the block is behind a store. -/
theorem three_cells {w : World} {k : Nat} {v0 v1 v2 : Value} {t : TypeId} (h : w.heap[k]? = some (.cells #[v0, v1, v2] t (0, 0))) : w.cell? ⟨k, 0, none⟩ = some v0 ∧ w.cell? ⟨k, 1, none⟩ = some v1 ∧ w.cell? ⟨k, 2, none⟩ = some v2 := by
  refine ⟨?_, ?_, ?_⟩ <;> simp [World.cell?, h]
theorem three_free {w : World} {k : Nat} {v0 v1 v2 : Value} {t : TypeId} (h : w.heap[k]? = some (.cells #[v0, v1, v2] t (0, 0))) : w.frozen? ⟨k, 0, none⟩ = false ∧ w.frozen? ⟨k, 1, none⟩ = false ∧ w.frozen? ⟨k, 2, none⟩ = false := by
  refine ⟨?_, ?_, ?_⟩ <;> simp [World.frozen?, h]
theorem three_set0 {w : World} {k : Nat} {v0 v1 v2 : Value} {t : TypeId} (h : w.heap[k]? = some (.cells #[v0, v1, v2] t (0, 0))) (x : Value) :
    (w.setCell ⟨k, 0, none⟩ x).heap[k]? = some (.cells #[x, v1, v2] t (0, 0)) := by
  have hlt := lt_of_block h
  have h' : w.heap[k] = .cells #[v0, v1, v2] t (0, 0) := by simpa [Array.getElem?_eq_getElem hlt] using h
  show (w.heap.modify k _)[k]? = _
  rw [Array.getElem?_eq_getElem (by simpa using hlt), Array.getElem_modify_self, h']
  rfl
theorem three_set1 {w : World} {k : Nat} {v0 v1 v2 : Value} {t : TypeId} (h : w.heap[k]? = some (.cells #[v0, v1, v2] t (0, 0))) (x : Value) :
    (w.setCell ⟨k, 1, none⟩ x).heap[k]? = some (.cells #[v0, x, v2] t (0, 0)) := by
  have hlt := lt_of_block h
  have h' : w.heap[k] = .cells #[v0, v1, v2] t (0, 0) := by simpa [Array.getElem?_eq_getElem hlt] using h
  show (w.heap.modify k _)[k]? = _
  rw [Array.getElem?_eq_getElem (by simpa using hlt), Array.getElem_modify_self, h']
  rfl
theorem three_set2 {w : World} {k : Nat} {v0 v1 v2 : Value} {t : TypeId} (h : w.heap[k]? = some (.cells #[v0, v1, v2] t (0, 0))) (x : Value) :
    (w.setCell ⟨k, 2, none⟩ x).heap[k]? = some (.cells #[v0, v1, x] t (0, 0)) := by
  have hlt := lt_of_block h
  have h' : w.heap[k] = .cells #[v0, v1, v2] t (0, 0) := by simpa [Array.getElem?_eq_getElem hlt] using h
  show (w.heap.modify k _)[k]? = _
  rw [Array.getElem?_eq_getElem (by simpa using hlt), Array.getElem_modify_self, h']
  rfl
theorem three_set {w : World} {k : Nat} {v0 v1 v2 : Value} {t : TypeId} (h : w.heap[k]? = some (.cells #[v0, v1, v2] t (0, 0))) (x0 x1 x2 : Value) :
    (((w.setCell ⟨k, 0, none⟩ x0).setCell ⟨k, 1, none⟩ x1).setCell ⟨k, 2, none⟩ x2).heap[k]? = some (.cells #[x0, x1, x2] t (0, 0)) :=
  three_set2 (three_set1 (three_set0 h x0) x1) x2
theorem grown_block {w w' : World} {r : Option Nat} {k : Nat} {o : Obj} (hg : w.grownBy w' r) (hk : w.heap[k]? = some o) (hr : r ≠ some k) : w'.heap[k]? = some o :=
  (hg.block k (Array.getElem?_eq_some_iff.1 hk).1 (fun e => hr e.symm)).trans hk
theorem three_below {w wr : World} {B k : Nat} (h : Below B w wr) (hk : B ≤ k) (x0 x1 x2 : Value) : Below B w (((wr.setCell ⟨k, 0, none⟩ x0).setCell ⟨k, 1, none⟩ x1).setCell ⟨k, 2, none⟩ x2) :=
  ((h.setCell (p := ⟨k, 0, none⟩) hk x0).setCell (p := ⟨k, 1, none⟩) hk x1).setCell (p := ⟨k, 2, none⟩) hk x2
abbrev tk (n : Int) : Lit := .int .u8 n
theorem law8 : Keyed Try.prog 5 := int_keyed Try.underlying5
theorem key8 (c : UInt8) : keyOf Try.prog 5 (b8 c) = some (tk (c.toNat : Int)) := keyOf_int_mk Try.underlying5 (by
  have := c.toNat_lt
  simp [Lit.wf, IntKind.min, IntKind.max, IntKind.signed, IntKind.bits]; omega)
/-- a map literal's entry -/
theorem wpList_insert_own {H : Type} {P : Program} (w : World) {ops : Array Oper} {rest : List Oper} {o : Oper} {a : Act} {Q : Exit → Act → World → Prop}
    (hg : o.guard = none) (m x v : Operand) (t : TypeId) (hop : o.op = Op.insert t m x v)
    (k e : TypeId) (K : Keyed P k) (ht : P.underlying t = some (.map k e)) (R : Value → Option (DataW H × List MemPlace)) (b n : Nat) (D : DataW H)
    (hm : a.eval m = .map (some b)) (hown : w.ownsMap P k R b n D) (hn : n < maxLen) (key val : Value) (kl : Lit) (hx : a.eval x = key) (hv : a.eval v = val) (hkey : keyOf P k key = some kl)
    (d : DataW H) (ps : List MemPlace) (hval : R val = some (d, ps))
    (hK : ∀ w', w'.ownsMap P k R b (n + 1) (D.put kl d) → w.grownBy w' (some b) → wpList P ops Q rest (a.put o.dst undef) w') :
    wpList P ops Q (o :: rest) a w := by
  refine wpList_plain hg fun K' hK' => ?_
  obtain ⟨w', hrun, r1, r2⟩ := hown.update K ht hn hkey hval
  unfold Oper.wp
  simp [execOp, hop, hm, hx, hv, hrun, Result.andThen]
  exact hK' _ _ (hK w' r1 r2)
/-- What a call that answers values and an error leaves. -/
def RetVE (w : World) (x : List V × Nat) (e : Ending) (w' : World) : Prop :=
  ∃ A c, e = .returned (.tuple #[.slice A x.1.length c, .int .i64 (x.2 : Int)]) ∧ w'.ownsRow w.heap.size 37 3 (.slice A x.1.length c) x.1.length (vcells x.1) ∧ Below w.heap.size w w'
theorem retVE_err {w w' : World} {r : List V × Nat} {x : Nat} (h : r = ([], x)) (hb : Below w.heap.size w w') : RetVE w r (.returned (.tuple #[.slice none 0 0, .int .i64 (x : Int)])) w' := by
  subst h
  exact ⟨none, 0, rfl, World.ownsRow_nil _ _ _ _, hb⟩
theorem retVE_ok {w w' : World} {r : List V × Nat} {l : List V} {v : Value} (h : r = (l, 0)) (ho : w'.ownsRow w.heap.size 37 3 v l.length (vcells l)) (hb : Below w.heap.size w w') : RetVE w r (.returned (.tuple #[v, .int .i64 0])) w' := by
  subst h
  obtain ⟨A, c, rfl, _⟩ := own_form ho
  exact ⟨A, c, rfl, ho, hb⟩
theorem lt_of_map {H : Type} {P : Program} {k : TypeId} {R : Value → Option (DataW H × List MemPlace)} {w : World} {b n : Nat} {D : DataW H} (h : w.ownsMap P k R b n D) : b < w.heap.size := by
  obtain ⟨es, clock, h1, _⟩ := h
  exact (Array.getElem?_eq_some_iff.1 h1).1
theorem map_bel {H : Type} {P : Program} {k : TypeId} {R : Value → Option (DataW H × List MemPlace)} {w w' : World} {b n B : Nat} {D : DataW H} (h : w.ownsMap P k R b n D) (hb : Below B w w') (hB : b < B) : w'.ownsMap P k R b n D := by
  obtain ⟨es, clock, h1, rest⟩ := h
  exact ⟨es, clock, (hb.block b hB).trans h1, rest⟩
theorem cv_three {w : World} {T : TypeId} {k : Nat} (v : V) (hk : k = w.heap.size) : Rd (w.alloc (.cells #[.int .u8 (v.k : Int), .int .i64 v.n, txt v.t] T)) (k + 1) (some ⟨k, 0, none⟩) (cv v) :=
  rd_arr w (cv v) T k (k + 1) hk (by omega)
theorem txt_inj {a b : List UInt8} : txt a = txt b ↔ a = b := by
  constructor
  · intro h; simp at h; exact h
  · rintro rfl; rfl
/-- how a region spells 'x != y' of two values -/
theorem neq_val (x y : V) (w : World) : (if (x.k : Int) = (y.k : Int) then if x.n = y.n then if x.t = y.t then (Result.ok (Next.value (.bool false)) w : Result Next) else Result.ok (Next.value (.bool true)) w else Result.ok (Next.value (.bool true)) w else Result.ok (Next.value (.bool true)) w)
    = Result.ok (Next.value (.bool (!decide (x = y)))) w := by
  obtain ⟨a, b, c⟩ := x
  obtain ⟨a', b', c'⟩ := y
  dsimp only
  by_cases h1 : a = a'
  · by_cases h2 : b = b'
    · by_cases h3 : c = c'
      · subst h1 h2 h3; simp
      · simp [h1, h2, h3]
    · simp [h2]
  · have : ¬ (a : Int) = (a' : Int) := by omega
    simp [h1, this]
theorem take_more {α : Type} {l m : List α} {k : Nat} {x y : α} (h : l.take k = m.take k) (hx : l[k]? = some x) (hy : m[k]? = some y) (hxy : x = y) : l.take (k + 1) = m.take (k + 1) := by
  rw [List.take_add_one, List.take_add_one, hx, hy, h, hxy]
set_option maxRecDepth 100000 in
theorem Same_any (B : Nat) (A A' : Option Addr) (c c' : Nat) (l m : List V) (w : World) (hl : Rd w B A (vcells l)) (hm : Rd w B A' (vcells m)) (hB : B ≤ w.heap.size) (hll : l.length ≤ maxLen) :
    Calls Try.prog 12 #[.slice A l.length c, .slice A' m.length c'] w fun e w' => e = .returned (.bool (decide (l = m))) ∧ Below w.heap.size w w' := by
  by_cases hlm : l.length = m.length
  case neg =>
    have he : decide (l = m) = false := by
      simp only [decide_eq_false_iff_not]; rintro rfl; exact hlm rfl
    have HE := Lib.hid he
    have hI : ((l.length : Int) != (m.length : Int)) = true := by simp; omega
    clear he hlm
    go_enter Try.func12, Try.ntmps12
    go_wp2
    go_ret
    exact ⟨by rw [HE.out]; rfl, by go_grown⟩
  have HLM := Lib.hid hlm
  obtain ⟨n, hn⟩ : ∃ n, n = l.length := ⟨_, rfl⟩
  have hn2 : m.length = n := by omega
  rw [← hn, hn2]
  have HN := Lib.hid hn
  have HN2 := Lib.hid hn2
  rw [← hn] at hll
  clear hlm hn hn2
  unfold maxLen at hll
  go_enter Try.func12, Try.ntmps12
  go_wp2
  go_loopw [5] (fun v5 wr => ∃ k : Nat, k ≤ n ∧ v5 = .int .i64 k ∧ l.take k = m.take k ∧ Below w.heap.size w wr) (fun v5 _ => n - (intOf v5).toNat)
  case atStart => exact ⟨0, by omega, rfl, rfl, Below.refl _ _⟩
  case round =>
    obtain ⟨k, hk, rfl, htk, hbel⟩ := hrel
    have HTK := Lib.hid htk
    clear htk
    by_cases hlt : k < n
    · have hn1 := HN.out
      have hn2 := HN2.out
      obtain ⟨x, hx⟩ : ∃ v, l[k]? = some v := ⟨_, List.getElem?_eq_getElem (by omega)⟩
      obtain ⟨y, hy⟩ : ∃ v, m[k]? = some v := ⟨_, List.getElem?_eq_getElem (by omega)⟩
      obtain ⟨gb, go, rfl, hgb, q0, q1, q2⟩ := rd_val hl hx
      obtain ⟨hb, ho, rfl, hhb, p0, p1, p2⟩ := rd_val hm hy
      have F1 : ∀ w', Below w.heap.size w w' → w'.cell? ⟨gb, go + k * 3, none⟩ = some (.int .u8 (x.k : Int)) ∧ w'.cell? ⟨gb, go + k * 3 + 1, none⟩ = some (.int .i64 x.n) ∧ w'.cell? ⟨gb, go + k * 3 + 2, none⟩ = some (txt x.t) := fun w' hb => ⟨(hb.cell (p := ⟨gb, go + k * 3, none⟩) (by show gb < _; omega)).trans q0, (hb.cell (p := ⟨gb, go + k * 3 + 1, none⟩) (by show gb < _; omega)).trans q1, (hb.cell (p := ⟨gb, go + k * 3 + 2, none⟩) (by show gb < _; omega)).trans q2⟩
      have F2 : ∀ w', Below w.heap.size w w' → w'.cell? ⟨hb, ho + k * 3, none⟩ = some (.int .u8 (y.k : Int)) ∧ w'.cell? ⟨hb, ho + k * 3 + 1, none⟩ = some (.int .i64 y.n) ∧ w'.cell? ⟨hb, ho + k * 3 + 2, none⟩ = some (txt y.t) := fun w' hbw => ⟨(hbw.cell (p := ⟨hb, ho + k * 3, none⟩) (by show hb < _; omega)).trans p0, (hbw.cell (p := ⟨hb, ho + k * 3 + 1, none⟩) (by show hb < _; omega)).trans p1, (hbw.cell (p := ⟨hb, ho + k * 3 + 2, none⟩) (by show hb < _; omega)).trans p2⟩
      have hkI : (k : Int) < (n : Int) := by omega
      clear q0 q1 q2 p0 p1 p2 hn1 hn2
      have HX := Lib.hid hx
      have HY := Lib.hid hy
      clear hx hy
      go_wp2_with fail
      refine ah_start 9 (fun w' => Below w.heap.size w w') rfl (by kernel_rfl) hbel.drew ?_ ; intro hS
      (refine mv_val 0 (v := ?_) rfl (by kernel_rfl) (by kernel_rfl) (by kernel_rfl) (fun _ _ _ h => h) (by rfl) hS ?_ ?_; rotate_left; (focus (intro w hSw; (try dsimp only at hSw); (have f1 := (F1 w hSw).1; have f2 := (F1 w hSw).2.1; have f3 := (F1 w hSw).2.2; have f4 := (F2 w hSw).1; have f5 := (F2 w hSw).2.1; have f6 := (F2 w hSw).2.2; have f7 := hlt; have f8 := neq_val x y w); go_simp; first | done | with_reducible rfl)); simp only [Act.put, List.setIfInBounds_toArray, List.set_cons_zero, List.set_cons_succ])
      (refine mv_val 1 (v := ?_) rfl (by kernel_rfl) (by kernel_rfl) (by kernel_rfl) (fun _ _ _ h => h) (by rfl) hS ?_ ?_; rotate_left; (focus (intro w hSw; (try dsimp only at hSw); (have f1 := (F1 w hSw).1; have f2 := (F1 w hSw).2.1; have f3 := (F1 w hSw).2.2; have f4 := (F2 w hSw).1; have f5 := (F2 w hSw).2.1; have f6 := (F2 w hSw).2.2; have f7 := hlt; have f8 := neq_val x y w); go_simp; first | done | with_reducible rfl)); simp only [Act.put, List.setIfInBounds_toArray, List.set_cons_zero, List.set_cons_succ])
      (refine mv_val 2 (v := ?_) rfl (by kernel_rfl) (by kernel_rfl) (by kernel_rfl) (fun _ _ _ h => h) (by rfl) hS ?_ ?_; rotate_left; (focus (intro w hSw; (try dsimp only at hSw); (have f1 := (F1 w hSw).1; have f2 := (F1 w hSw).2.1; have f3 := (F1 w hSw).2.2; have f4 := (F2 w hSw).1; have f5 := (F2 w hSw).2.1; have f6 := (F2 w hSw).2.2; have f7 := hlt; have f8 := neq_val x y w); go_simp; first | done | with_reducible rfl)); simp only [Act.put, List.setIfInBounds_toArray, List.set_cons_zero, List.set_cons_succ])
      (refine mv_val 3 (v := ?_) rfl (by kernel_rfl) (by kernel_rfl) (by kernel_rfl) (fun _ _ _ h => h) (by rfl) hS ?_ ?_; rotate_left; (focus (intro w hSw; (try dsimp only at hSw); (have f1 := (F1 w hSw).1; have f2 := (F1 w hSw).2.1; have f3 := (F1 w hSw).2.2; have f4 := (F2 w hSw).1; have f5 := (F2 w hSw).2.1; have f6 := (F2 w hSw).2.2; have f7 := hlt; have f8 := neq_val x y w); go_simp; first | done | with_reducible rfl)); simp only [Act.put, List.setIfInBounds_toArray, List.set_cons_zero, List.set_cons_succ])
      (refine mv_val 4 (v := ?_) rfl (by kernel_rfl) (by kernel_rfl) (by kernel_rfl) (fun _ _ _ h => h) (by rfl) hS ?_ ?_; rotate_left; (focus (intro w hSw; (try dsimp only at hSw); (have f1 := (F1 w hSw).1; have f2 := (F1 w hSw).2.1; have f3 := (F1 w hSw).2.2; have f4 := (F2 w hSw).1; have f5 := (F2 w hSw).2.1; have f6 := (F2 w hSw).2.2; have f7 := hlt; have f8 := neq_val x y w); go_simp; first | done | with_reducible rfl)); simp only [Act.put, List.setIfInBounds_toArray, List.set_cons_zero, List.set_cons_succ])
      (refine mv_val 5 (v := ?_) rfl (by kernel_rfl) (by kernel_rfl) (by kernel_rfl) (fun _ _ _ h => h) (by rfl) hS ?_ ?_; rotate_left; (focus (intro w hSw; (try dsimp only at hSw); (have f1 := (F1 w hSw).1; have f2 := (F1 w hSw).2.1; have f3 := (F1 w hSw).2.2; have f4 := (F2 w hSw).1; have f5 := (F2 w hSw).2.1; have f6 := (F2 w hSw).2.2; have f7 := hlt; have f8 := neq_val x y w); go_simp; first | done | with_reducible rfl)); simp only [Act.put, List.setIfInBounds_toArray, List.set_cons_zero, List.set_cons_succ])
      (refine mv_val 6 (v := ?_) rfl (by kernel_rfl) (by kernel_rfl) (by kernel_rfl) (fun _ _ _ h => h) (by rfl) hS ?_ ?_; rotate_left; (focus (intro w hSw; (try dsimp only at hSw); (have f1 := (F1 w hSw).1; have f2 := (F1 w hSw).2.1; have f3 := (F1 w hSw).2.2; have f4 := (F2 w hSw).1; have f5 := (F2 w hSw).2.1; have f6 := (F2 w hSw).2.2; have f7 := hlt; have f8 := neq_val x y w); go_simp; first | done | with_reducible rfl)); simp only [Act.put, List.setIfInBounds_toArray, List.set_cons_zero, List.set_cons_succ])
      (refine mv_val 7 (v := ?_) rfl (by kernel_rfl) (by kernel_rfl) (by kernel_rfl) (fun _ _ _ h => h) (by rfl) hS ?_ ?_; rotate_left; (focus (intro w hSw; (try dsimp only at hSw); (have f1 := (F1 w hSw).1; have f2 := (F1 w hSw).2.1; have f3 := (F1 w hSw).2.2; have f4 := (F2 w hSw).1; have f5 := (F2 w hSw).2.1; have f6 := (F2 w hSw).2.2; have f7 := hlt; have f8 := neq_val x y w); go_simp; first | done | with_reducible rfl)); simp only [Act.put, List.setIfInBounds_toArray, List.set_cons_zero, List.set_cons_succ])
      (refine mv_val 8 (v := ?_) rfl (by kernel_rfl) (by kernel_rfl) (by kernel_rfl) (fun _ _ _ h => h) (by rfl) hS ?_ ?_; rotate_left; (focus (intro w hSw; (try dsimp only at hSw); (have f1 := (F1 w hSw).1; have f2 := (F1 w hSw).2.1; have f3 := (F1 w hSw).2.2; have f4 := (F2 w hSw).1; have f5 := (F2 w hSw).2.1; have f6 := (F2 w hSw).2.2; have f7 := hlt; have f8 := neq_val x y w); go_simp; first | done | with_reducible rfl)); simp only [Act.put, List.setIfInBounds_toArray, List.set_cons_zero, List.set_cons_succ])
      refine wpAnyH_done (by kernel_rfl) ?_ _
      by_cases hxy : x = y
      · have hq : (!decide (x = y)) = false := by simp [hxy]
        have HT2 := Lib.hid (take_more HTK.out HX.out HY.out hxy)
        rw [hq]
        clear hq hxy
        go_wp2_with fail
        go_roundw
        case rel => exact ⟨k + 1, by omega, by go_num, HT2.out, hS⟩
        case measure => simp [intOf]; omega
      · have hq : (!decide (x = y)) = true := by simp [hxy]
        have he : decide (l = m) = false := by
          simp only [decide_eq_false_iff_not]
          rintro rfl
          exact hxy (Option.some.inj (HX.out.symm.trans HY.out))
        have HE := Lib.hid he
        rw [hq]
        clear hq hxy he
        go_wp2_with fail
        go_ret
        exact ⟨by rw [HE.out]; rfl, hS⟩
    · have hkn : k = n := by omega
      have he : decide (l = m) = true := by
        have h := HTK.out
        rw [hkn, List.take_of_length_le (by rw [← HN.out]; omega), List.take_of_length_le (by rw [HN2.out]; omega)] at h
        simp [h]
      have HE := Lib.hid he
      subst hkn
      clear he
      go_wp2_with fail
      go_ret
      exact ⟨by rw [HE.out]; rfl, hbel⟩
set_option maxRecDepth 100000 in
theorem May_any (v : V) (hk : v.k < 256) (w : World) :
    Calls Try.prog 24 #[va v] w fun e w' => e = .returned (.bool (mayB v)) ∧ Below w.heap.size w w' := by
  obtain ⟨k, n, t⟩ := v
  rw [mayB_cases]
  dsimp only at hk ⊢
  rcases (by omega : k = 0 ∨ k = 1 ∨ k = 2 ∨ k = 3 ∨ 3 < k) with rfl | rfl | rfl | rfl | h3
  case inr.inr.inr.inr =>
    rw [if_neg (by omega), if_neg (by omega), if_neg (by omega), if_neg (by omega)]
    have h3I : (3 : Int) < (k : Int) := by omega
    clear hk h3
    go_enter Try.func24, Try.ntmps24
    go_wp2
    go_ret
    exact ⟨rfl, by go_grown⟩
  all_goals
    go_enter Try.func24, Try.ntmps24
    go_wp2
  all_goals go_ret
  all_goals refine ⟨?_, by go_grown⟩
  all_goals (first | (simp; done) | (simp_all [isEmpty_dec]; done) | (by_cases hn1 : n = 1 <;> cases t <;> simp_all; done))
theorem lit0_u8 (w : World) : (w.alloc (.cells #[] 5)).ownsRow w.heap.size 5 1 (.slice (some ⟨w.heap.size, 0, none⟩) 0 0) 0 [] := World.ownsRow_lit w #[] 0 (Nat.le_refl _) (by unfold maxLen; omega) rfl
theorem lit0_val (w : World) : (w.alloc (.cells #[] 37)).ownsRow w.heap.size 37 3 (.slice (some ⟨w.heap.size, 0, none⟩) 0 0) 0 [] := World.ownsRow_lit w #[] 0 (Nat.le_refl _) (by unfold maxLen; omega) rfl
theorem vok2 {l : List V} (h : ∀ v ∈ l, vok v) : ∀ v ∈ l, v.k < 256 ∧ i64r v.n := fun v hv => ⟨(h v hv).1, (h v hv).2.1⟩
end Go.Proofs.Ytfnbckgpldkgmaa

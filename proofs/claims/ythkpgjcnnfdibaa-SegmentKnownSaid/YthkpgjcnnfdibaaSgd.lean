/- Joined texts: see the remark ahead of each part. No condition but those that the parts name. -/
import Derived.Test.YthkpgjcnnfdibaaSgc
import Derived.WalkLawsBesides
import Derived.Recover
import Derived.Defers
import Derived.Test.YthkpgjcnnfdibaaCoQ
/-! The walks of segment.must, reader.number, reader.part (layer 7): they return, or they panic with the error. No condition but sizes. -/
namespace Go.Proofs.Ythkpgjcnnfdibaa
open Go.RowKit Go.Maps
set_option linter.unusedVariables false
set_option linter.unusedSimpArgs false

/-- the panic that carries an error -/
abbrev pan (e : Nat) : Ending := .panicked [{ v := .iface 27 (.int .i64 (e : Int)), recovered := false }]
theorem must_ok (w : World) : Calls Try.prog 64 #[.int .i64 0] w fun e w' => e = .returned (.tuple #[]) ∧ w = w' := by
  go_enter Try.func64, Try.ntmps64
  go_wp2
  go_end0
  exact ⟨rfl, rfl⟩
theorem must_err (e : Nat) (he : e ≠ 0) (w : World) : Calls Try.prog 64 #[.int .i64 (e : Int)] w fun x w' => x = pan e ∧ w = w' := by
  have hne : ((e : Int) != 0) = true := by simp; omega
  go_enter Try.func64, Try.ntmps64
  go_wp2
  exact ⟨rfl, rfl, rfl⟩
/-! ### the reader: one cell, the bytes that are left -/
abbrev rdr (w : World) (R : Nat) (A : Option Addr) (b : List UInt8) (c : Nat) : Prop := Boxed w R 99 (.slice A b.length c) ∧ Rd w R A (cells b) ∧ b.length ≤ c
set_option maxRecDepth 100000 in
theorem number_err (R : Nat) (A : Option Addr) (b : List UInt8) (c : Nat) (w : World) (h : rdr w R A b c) (hl : b.length ≤ 4000000000) (he : (vget b).2.2 ≠ 0) :
    Calls Try.prog 63 #[.pointer (some ⟨R, 0, none⟩)] w fun e w' => e = pan (vget b).2.2 ∧ w = w' := by
  obtain ⟨h1, h2, h3⟩ := h
  have hc := h1.cell
  have G := Get_any R A c b w h2 (by omega)
  obtain ⟨⟨n, k, e⟩, hv⟩ : ∃ r, r = vget b := ⟨_, rfl⟩
  rw [← hv] at G he ⊢
  dsimp only at he ⊢
  have HG := Lib.hid G
  have HM := Lib.hid (must_err e he w)
  clear G hv h1 h2 he
  go_enter Try.func63, Try.ntmps63
  go_wp2_with fail
  refine HG.out.mono ?_; rintro e1 w1 ⟨rfl, hq⟩
  subst hq
  go_wp2_with fail
  refine HM.out.mono ?_; rintro e1 w1 ⟨rfl, hq⟩
  subst hq
  exact ⟨rfl, rfl, rfl⟩
theorem below_box {R : Nat} {w : World} (v : Value) : Below R w (w.setCell ⟨R, 0, none⟩ v) := (Below.refl R w).setCell (p := ⟨R, 0, none⟩) (Nat.le_refl _) v
set_option maxRecDepth 100000 in
theorem number_ok (R : Nat) (A : Option Addr) (b : List UInt8) (c : Nat) (w : World) (h : rdr w R A b c) (hl : b.length ≤ 4000000000) (he : (vget b).2.2 = 0) :
    Calls Try.prog 63 #[.pointer (some ⟨R, 0, none⟩)] w fun e w' => e = .returned (.int .u64 ((vget b).1 : Int)) ∧ ∃ A' c', rdr w' R A' (b.drop (vget b).2.1) c' ∧ w.grownBy w' (some R) := by
  obtain ⟨h1, h2, h3⟩ := h
  have hc := h1.cell
  have hf := h1.frozen
  have G := Get_any R A c b w h2 (by omega)
  have hkl := (vget_val b).2.2
  obtain ⟨⟨n, k, e⟩, hv⟩ : ∃ r, r = vget b := ⟨_, rfl⟩
  rw [← hv] at G he hkl ⊢
  dsimp only at he hkl ⊢
  subst he
  obtain ⟨A', c', hs, hr, hcl⟩ := from_any c k hkl h3 h2
  have hs2 := fun w' => hs w' (k : Int) rfl
  have HG := Lib.hid G
  obtain ⟨r, hr2⟩ : ∃ r, r = b.drop k := ⟨_, rfl⟩
  rw [← hr2] at hs2 hr hcl ⊢
  have H1 := Lib.hid h1
  have HR := Lib.hid hr
  clear G hv h1 h2 hs hr2 hr
  go_enter Try.func63, Try.ntmps63
  go_wp2_with fail
  refine HG.out.mono ?_; rintro e1 w1 ⟨rfl, hq⟩
  subst hq
  go_wp2_with fail
  refine (must_ok _).mono ?_; rintro e1 w1 ⟨rfl, hq⟩
  subst hq
  go_wp2_with fail
  go_ret
  exact ⟨rfl, A', c', ⟨H1.out.set _, HR.out.below (below_box _), hcl⟩, grown_set _ _ _ _⟩
/-- 'b[:m:m]' of bytes that are read, m a uint64 -/
theorem head3_any {w : World} {B : Nat} {A : Option Addr} {l : List UInt8} (c m : Nat) (hm : m ≤ l.length) (hc : l.length ≤ c) (hr : Rd w B A (cells l)) :
    ∃ A' c', (∀ w' (z : Int), z = m → (Instr.sliceAt 22 (.slice A l.length c) none (some (.int .u64 z)) (some (.int .u64 z))).run Try.prog w' = .ok (.slice A' (l.take m).length c') w') ∧ Rd w B A' (cells (l.take m)) ∧ (l.take m).length ≤ c' := by
  obtain ⟨i0, hi, hz0, hz1, hz2⟩ := info_parts Try.infoU8
  have hlen : (l.take m).length = m := by rw [List.length_take]; omega
  refine ⟨A, m, fun w' z hz => ?_, by unfold cells at *; rw [List.map_take]; exact hr.take m, by omega⟩
  subst hz
  rw [hlen]
  simp [Instr.sliceAt, Instr.slice, run_underlying Try.underlying22, Instr.sliceBounds, run_sliceBound, sizeOf, typeInfo, hi, hz1, (by omega : (0 : Int) ≤ (m : Int)), (by omega : (m : Int) ≤ (c : Int))]
  cases A <;> simp [Addr.add]
/-- 'b[m:]', m a uint64 -/
theorem from_u64 {w : World} {B : Nat} {A : Option Addr} {l : List UInt8} (c u : Nat) (hu : u ≤ l.length) (hc : l.length ≤ c) (hr : Rd w B A (cells l)) :
    ∃ A' c', (∀ w' (z : Int), z = u → (Instr.sliceAt 22 (.slice A l.length c) (some (.int .u64 z)) none none).run Try.prog w' = .ok (.slice A' (l.drop u).length c') w') ∧ Rd w B A' (cells (l.drop u)) ∧ (l.drop u).length ≤ c' := by
  obtain ⟨i0, hi, hz0, hz1, hz2⟩ := info_parts Try.infoU8
  have h1 := hr.cut u (c = u) (fun e => by simp; omega)
  refine ⟨if c = u then A else A.map (·.add u), c - u, fun w' z hz => ?_, by unfold cells at *; rw [List.map_drop]; exact h1, by rw [List.length_drop]; omega⟩
  subst hz
  rw [List.length_drop]
  simp [Instr.sliceAt, Instr.slice, run_underlying Try.underlying22, Instr.sliceBounds, run_sliceBound, sizeOf, typeInfo, hi, hz1, (by omega : (0 : Int) ≤ (u : Int)), (by omega : (u : Int) ≤ (l.length : Int))]
/-- what reader.part leaves, where it panics -/
def PartErr (R : Nat) (w : World) (b : List UInt8) (e : Ending) (w' : World) : Prop := e = pan (rpart b).2.2 ∧ Below R w w' ∧ ∃ v, Boxed w' R 99 v
set_option maxRecDepth 100000 in
theorem part_err (R : Nat) (A : Option Addr) (b : List UInt8) (c : Nat) (w : World) (h : rdr w R A b c) (hl : b.length ≤ 4000000000) (he : (rpart b).2.2 ≠ 0) :
    Calls Try.prog 65 #[.pointer (some ⟨R, 0, none⟩)] w (PartErr R w b) := by
  by_cases h0 : (vget b).2.2 = 0
  case neg =>
    have hp : (rpart b).2.2 = (vget b).2.2 := by unfold rpart; rw [if_pos h0]
    have HN := Lib.hid (number_err R A b c w h hl h0)
    have HP := Lib.hid hp
    obtain ⟨e, hee⟩ : ∃ e, e = (vget b).2.2 := ⟨_, rfl⟩
    rw [← hee] at HN HP
    have H1 := Lib.hid h.1
    clear hp h0 he hee h
    go_enter Try.func65, Try.ntmps65
    go_wp2_with fail
    refine HN.out.mono ?_; rintro e1 w1 ⟨rfl, hq⟩
    subst hq
    exact ⟨rfl, by rw [HP.out], Below.refl _ _, _, H1.out⟩
  have hkl := (vget_val b).1
  by_cases h1 : (b.drop (vget b).2.1).length < (vget b).1
  case neg => exact absurd (by unfold rpart; rw [if_neg (by simp [h0]), if_neg h1]) he
  have hp : (rpart b).2.2 = 20 := by unfold rpart; rw [if_neg (by simp [h0]), if_pos h1]
  have HN := Lib.hid (number_ok R A b c w h hl h0)
  have HP := Lib.hid hp
  obtain ⟨r, hr⟩ : ∃ r, r = b.drop (vget b).2.1 := ⟨_, rfl⟩
  obtain ⟨n, hn⟩ : ∃ n, n = (vget b).1 := ⟨_, rfl⟩
  rw [← hr, ← hn] at HN
  rw [← hr, ← hn] at h1
  rw [← hn] at hkl
  have hrl : r.length ≤ b.length := by rw [hr, List.length_drop]; omega
  have hwr : IntKind.u64.wrap (r.length : Int) = (r.length : Int) := by rw [IntKind.wrap_u64]; omega
  have hrn : (r.length : Int) < (n : Int) := by omega
  have hRw : R ≤ w.heap.size := by have := h.1.lt; omega
  clear hp h0 he hr hn h
  go_enter Try.func65, Try.ntmps65
  go_wp2_with fail
  refine HN.out.mono ?_; rintro e1 w1 ⟨rfl, A1, c1, ⟨b1, b2, b3⟩, hb1⟩
  have hc1 := b1.cell
  go_wp2_with fail
  refine (must_err 20 (by omega) _).mono ?_; rintro e1 w2 ⟨rfl, hq⟩
  subst hq
  exact ⟨rfl, by rw [HP.out], (Below.refl R w).grown hb1 hRw (by simp), _, b1⟩
/-- what reader.part leaves, where it returns -/
def PartOk (R : Nat) (w : World) (b : List UInt8) (e : Ending) (w' : World) : Prop :=
  ∃ A1 c1 A2 c2, e = .returned (.slice A1 (rpart b).1.length c1) ∧ Rd w' R A1 (cells (rpart b).1) ∧ (rpart b).1.length ≤ c1 ∧ rdr w' R A2 (rpart b).2.1 c2 ∧ w.grownBy w' (some R)
set_option maxRecDepth 100000 in
theorem part_ok (R : Nat) (A : Option Addr) (b : List UInt8) (c : Nat) (w : World) (h : rdr w R A b c) (hl : b.length ≤ 4000000000) (he : (rpart b).2.2 = 0) :
    Calls Try.prog 65 #[.pointer (some ⟨R, 0, none⟩)] w (PartOk R w b) := by
  have h0 : (vget b).2.2 = 0 := by
    rcases Nat.eq_zero_or_pos (vget b).2.2 with h | h
    · exact h
    · exfalso
      have : (rpart b).2.2 = (vget b).2.2 := by unfold rpart; rw [if_pos (by omega)]
      omega
  have hkl := (vget_val b).1
  have h1 : ¬ (b.drop (vget b).2.1).length < (vget b).1 := fun h1 => by
    have : (rpart b).2.2 = 20 := by unfold rpart; rw [if_neg (by simp [h0]), if_pos h1]
    omega
  have hp : rpart b = ((b.drop (vget b).2.1).take (vget b).1, (b.drop (vget b).2.1).drop (vget b).1, 0) := by unfold rpart; rw [if_neg (by simp [h0]), if_neg h1]
  have HN := Lib.hid (number_ok R A b c w h hl h0)
  have HP := Lib.hid hp
  obtain ⟨r, hr⟩ : ∃ r, r = b.drop (vget b).2.1 := ⟨_, rfl⟩
  obtain ⟨n, hn⟩ : ∃ n, n = (vget b).1 := ⟨_, rfl⟩
  rw [← hr, ← hn] at HN HP
  rw [← hr, ← hn] at h1
  rw [← hn] at hkl
  have hrl : r.length ≤ b.length := by rw [hr, List.length_drop]; omega
  have hwr : IntKind.u64.wrap (r.length : Int) = (r.length : Int) := by rw [IntKind.wrap_u64]; omega
  have hrn : ¬ (r.length : Int) < (n : Int) := by omega
  have hnr : n ≤ r.length := by omega
  clear hp h0 he hr hn h h1
  go_enter Try.func65, Try.ntmps65
  go_wp2_with fail
  refine HN.out.mono ?_; rintro e1 w1 ⟨rfl, A1, c1, ⟨b1, b2, b3⟩, hb1⟩
  have hc1 := b1.cell
  have hf1 := b1.frozen
  obtain ⟨A3, c3, hs3, hr3, hc3⟩ := head3_any c1 n hnr b3 b2
  obtain ⟨A4, c4, hs4, hr4, hc4⟩ := from_u64 c1 n hnr b3 b2
  have e3 := fun w' => hs3 w' (n : Int) rfl
  have e4 := fun w' => hs4 w' (n : Int) rfl
  obtain ⟨x, hx⟩ : ∃ x, x = r.take n := ⟨_, rfl⟩
  obtain ⟨y, hy⟩ : ∃ y, y = r.drop n := ⟨_, rfl⟩
  rw [← hx] at e3 hr3 hc3 HP
  rw [← hy] at e4 hr4 hc4 HP
  have B1 := Lib.hid b1
  have R3 := Lib.hid hr3
  have R4 := Lib.hid hr4
  clear hs3 hs4 hx hy b1 b2 hr3 hr4
  go_wp2_with fail
  go_ret
  unfold PartOk
  rw [HP.out]
  exact ⟨A3, c3, A4, c4, rfl, R3.out.below (below_box _), hc3, ⟨B1.out.set _, R4.out.below (below_box _), hc4⟩, World.grownBy.trans hb1 (grown_set _ _ _ _)⟩
end Go.Proofs.Ythkpgjcnnfdibaa

/-! The walks of segment.read's deferred closure (layer 7): a panic with an error is recovered and told; where nothing panics nothing turns. No condition. -/
namespace Go.Proofs.Ythkpgjcnnfdibaa
open Go.RowKit Go.Maps
set_option linter.unusedVariables false
set_option linter.unusedSimpArgs false

theorem as_errno (v : Value) (x : TypeId) (w : World) : (Instr.typeAssert (.iface 27 v) x 27 true).run Try.prog w = .ok (.tuple #[v, .bool true]) w := by kernel_rfl
theorem as_none (x : TypeId) (w : World) : (Instr.typeAssert .nilIface x 27 true).run Try.prog w = .ok (.tuple #[.int .i64 0, .bool false]) w := by kernel_rfl
/-- five cells of a read's results, laid anew -/
def caught (P : Nat) (e : Int) (w : World) : World := ((((w.setCell ⟨P, 0, none⟩ (.slice none 0 0)).setCell ⟨P + 1, 0, none⟩ (.int .i64 0)).setCell ⟨P + 2, 0, none⟩ (.slice none 0 0)).setCell ⟨P + 3, 0, none⟩ (.slice none 0 0)).setCell ⟨P + 4, 0, none⟩ (.int .i64 e)
abbrev five (P : Nat) : Array Value := #[.pointer (some ⟨P, 0, none⟩), .pointer (some ⟨P + 1, 0, none⟩), .pointer (some ⟨P + 2, 0, none⟩), .pointer (some ⟨P + 3, 0, none⟩), .pointer (some ⟨P + 4, 0, none⟩)]
set_option maxRecDepth 100000 in
theorem catch_pan (P : Nat) (e : Int) (older : List PanicEntry) (w : World) (v0 v1 v2 v3 v4 : Value)
    (h0 : w.cell? ⟨P, 0, none⟩ = some v0) (h1 : w.cell? ⟨P + 1, 0, none⟩ = some v1) (h2 : w.cell? ⟨P + 2, 0, none⟩ = some v2) (h3 : w.cell? ⟨P + 3, 0, none⟩ = some v3) (h4 : w.cell? ⟨P + 4, 0, none⟩ = some v4)
    (z0 : w.frozen? ⟨P, 0, none⟩ = false) (z1 : w.frozen? ⟨P + 1, 0, none⟩ = false) (z2 : w.frozen? ⟨P + 2, 0, none⟩ = false) (z3 : w.frozen? ⟨P + 3, 0, none⟩ = false) (z4 : w.frozen? ⟨P + 4, 0, none⟩ = false) :
    CallsD Try.prog 61 (five P) (.panicking ({ v := .iface 27 (.int .i64 e), recovered := false } :: older)) w fun x u' w' =>
      x = .returned (.tuple #[]) ∧ u' = .panicking ({ v := .iface 27 (.int .i64 e), recovered := true } :: older) ∧ w' = caught P e w := by
  refine callsD_of_wpS Try.func61 rfl fun c₀ cs hu => ?_
  apply wpS_seq
  apply wpS_region
  simp [wpOpsS, go_sem, recoverD, hu, Try.ntmps61, Exit.thenS, as_errno]
  apply wpS_seq
  apply wpS_region
  simp [wpOpsS, go_sem, Exit.thenS]
  refine wpS_cond (t := true) (by simp [Act.eval, Array.replicate]) ?_
  simp only [if_true]
  apply wpS_region
  simp [wpOpsS, go_sem, h0, h1, h2, h3, h4, z0, z1, z2, z3, z4, bodyPostS, results, Try.results61]
  rfl
theorem catch_idle (P : Nat) (w : World) :
    CallsD Try.prog 61 (five P) .returning w fun e u' w' => e = .returned (.tuple #[]) ∧ u' = .returning ∧ w' = w := by
  refine callsD_of_wpS Try.func61 rfl fun c₀ cs hu => ?_
  apply wpS_seq
  apply wpS_region
  simp [wpOpsS, go_sem, recoverD, hu, Try.ntmps61, Exit.thenS, as_none]
  apply wpS_seq
  apply wpS_region
  simp [wpOpsS, go_sem, Exit.thenS]
  refine wpS_cond (t := false) (by simp [Act.eval, Array.replicate]) ?_
  simp only [Bool.false_eq_true, if_false]
  refine wpS_of_wp (wp_skip ?_)
  cases c₀
  simp_all [bodyPostS, results, Try.results61]
end Go.Proofs.Ythkpgjcnnfdibaa

/-! segment.read's results (layer 7): five cells; what a panic leaves at the door. No condition. -/
namespace Go.Proofs.Ythkpgjcnnfdibaa
open Go.RowKit Go.Maps
set_option linter.unusedVariables false
set_option linter.unusedSimpArgs false

/-- five cells of a read's results -/
def Five (w : World) (P : Nat) (v0 v1 v2 v3 v4 : Value) : Prop :=
  Boxed w P 23 v0 ∧ Boxed w (P + 1) 3 v1 ∧ Boxed w (P + 2) 37 v2 ∧ Boxed w (P + 3) 37 v3 ∧ Boxed w (P + 4) 27 v4
theorem boxed_bel {R : Nat} {W W1 : World} {B : Nat} {t : TypeId} {v : Value} (h : Boxed W B t v) (hb : Below R W W1) (hR : B < R) : Boxed W1 B t v := (hb.block B hR).trans h
theorem boxed_oth {W : World} {B C : Nat} {t : TypeId} {v u : Value} (h : Boxed W B t v) (hc : C ≠ B) : Boxed (W.setCell ⟨C, 0, none⟩ u) B t v := (Below.heap_setCell _ _ _ B (fun e => hc e.symm)).trans h
theorem Five.below {R : Nat} {w w' : World} {P : Nat} {v0 v1 v2 v3 v4 : Value} (h : Five w P v0 v1 v2 v3 v4) (hb : Below R w w') (hR : P + 5 ≤ R) : Five w' P v0 v1 v2 v3 v4 := by
  obtain ⟨h0, h1, h2, h3, h4⟩ := h
  exact ⟨boxed_bel h0 hb (by omega), boxed_bel h1 hb (by omega), boxed_bel h2 hb (by omega), boxed_bel h3 hb (by omega), boxed_bel h4 hb (by omega)⟩
theorem Five.lt {w : World} {P : Nat} {v0 v1 v2 v3 v4 : Value} (h : Five w P v0 v1 v2 v3 v4) : P + 5 ≤ w.heap.size := by have := h.2.2.2.2.lt; omega
theorem Five.set0 {w : World} {P : Nat} {v0 v1 v2 v3 v4 : Value} (h : Five w P v0 v1 v2 v3 v4) (v : Value) : Five (w.setCell ⟨P, 0, none⟩ v) P v v1 v2 v3 v4 := by
  obtain ⟨h0, h1, h2, h3, h4⟩ := h
  exact ⟨h0.set v, boxed_oth h1 (by omega), boxed_oth h2 (by omega), boxed_oth h3 (by omega), boxed_oth h4 (by omega)⟩
theorem Five.set1 {w : World} {P : Nat} {v0 v1 v2 v3 v4 : Value} (h : Five w P v0 v1 v2 v3 v4) (v : Value) : Five (w.setCell ⟨P + 1, 0, none⟩ v) P v0 v v2 v3 v4 := by
  obtain ⟨h0, h1, h2, h3, h4⟩ := h
  exact ⟨boxed_oth h0 (by omega), h1.set v, boxed_oth h2 (by omega), boxed_oth h3 (by omega), boxed_oth h4 (by omega)⟩
theorem Five.set2 {w : World} {P : Nat} {v0 v1 v2 v3 v4 : Value} (h : Five w P v0 v1 v2 v3 v4) (v : Value) : Five (w.setCell ⟨P + 2, 0, none⟩ v) P v0 v1 v v3 v4 := by
  obtain ⟨h0, h1, h2, h3, h4⟩ := h
  exact ⟨boxed_oth h0 (by omega), boxed_oth h1 (by omega), h2.set v, boxed_oth h3 (by omega), boxed_oth h4 (by omega)⟩
theorem Five.set3 {w : World} {P : Nat} {v0 v1 v2 v3 v4 : Value} (h : Five w P v0 v1 v2 v3 v4) (v : Value) : Five (w.setCell ⟨P + 3, 0, none⟩ v) P v0 v1 v2 v v4 := by
  obtain ⟨h0, h1, h2, h3, h4⟩ := h
  exact ⟨boxed_oth h0 (by omega), boxed_oth h1 (by omega), boxed_oth h2 (by omega), h3.set v, boxed_oth h4 (by omega)⟩
theorem Five.set4 {w : World} {P : Nat} {v0 v1 v2 v3 v4 : Value} (h : Five w P v0 v1 v2 v3 v4) (v : Value) : Five (w.setCell ⟨P + 4, 0, none⟩ v) P v0 v1 v2 v3 v := by
  obtain ⟨h0, h1, h2, h3, h4⟩ := h
  exact ⟨boxed_oth h0 (by omega), boxed_oth h1 (by omega), boxed_oth h2 (by omega), boxed_oth h3 (by omega), h4.set v⟩
theorem Five.caught {w : World} {P : Nat} {v0 v1 v2 v3 v4 : Value} (h : Five w P v0 v1 v2 v3 v4) (e : Int) : Five (caught P e w) P (.slice none 0 0) (.int .i64 0) (.slice none 0 0) (.slice none 0 0) (.int .i64 e) :=
  ((((h.set0 _).set1 _).set2 _).set3 _).set4 _
theorem below_caught {P : Nat} (e : Int) {w w' : World} (h : Below P w w') : Below P w (caught P e w') :=
  ((((h.setCell (p := ⟨P, 0, none⟩) (Nat.le_refl _) _).setCell (p := ⟨P + 1, 0, none⟩) (by simp) _).setCell (p := ⟨P + 2, 0, none⟩) (by simp) _).setCell (p := ⟨P + 3, 0, none⟩) (by simp) _).setCell (p := ⟨P + 4, 0, none⟩) (by simp) _
theorem box_below {R : Nat} {w w' : World} (h : w.grownBy w' (some R)) (hR : R ≤ w.heap.size) : Below R w w' := (Below.refl R w).grown h hR (by simp)
theorem own_box {w w' : World} {base k s R : Nat} {e : TypeId} {v : Value} {xs : List Value} (h : w.ownsRow base e s v k xs) (hg : w.grownBy w' (some R)) (hR : R < base) : w'.ownsRow base e s v k xs :=
  own_grown h hg (fun g hv e => by have := (h.lt g hv).1; cases e; omega)
theorem OwnN.box {β : Type} {f : β → List Value} {n : β → Nat} {To Ti : TypeId} {sz : Nat} {w w' : World} {base R : Nat} {v : Value} {bs : List β} (h : OwnN f n To Ti sz w base v bs) (hg : w.grownBy w' (some R)) (hR : R < base) : OwnN f n To Ti sz w' base v bs := by
  obtain ⟨ss, h1, h2, h3, h4⟩ := h
  exact ⟨ss, h1, own_box h2 hg hR, fun i s b hs hi => by obtain ⟨a1, a2⟩ := h3 i s b hs hi; exact ⟨a1, own_box a2 hg hR⟩, h4⟩
/-- What a read leaves. -/
def RetSeg (w : World) (s : Seg) (e : Ending) (w' : World) : Prop :=
  ∃ A c A1 c1 A2 c2, e = .returned (.tuple #[.slice A s.cols.length c, .int .i64 (s.n : Int), .slice A1 s.lo.length c1, .slice A2 s.hi.length c2, .int .i64 (s.e : Int)]) ∧ RdVV w' w'.heap.size A s.cols ∧ Rd w' w'.heap.size A1 (vcells s.lo) ∧ Rd w' w'.heap.size A2 (vcells s.hi) ∧ Below w.heap.size w w'
theorem retSeg_err {w w' : World} (e : Nat) (hb : Below w.heap.size w w') : RetSeg w (segErr e) (.returned (.tuple #[.slice none 0 0, .int .i64 0, .slice none 0 0, .slice none 0 0, .int .i64 (e : Int)])) w' :=
  ⟨none, 0, none, 0, none, 0, rfl, RdN.nil _ _ _, .inl rfl, .inl rfl, hb⟩
/-- the results' cells among a frame's -/
def At5 (tmps : Array Value) (P : Nat) : Prop :=
  tmps[4]?.getD undef = .pointer (some ⟨P, 0, none⟩) ∧ tmps[5]?.getD undef = .pointer (some ⟨P + 1, 0, none⟩) ∧ tmps[6]?.getD undef = .pointer (some ⟨P + 2, 0, none⟩) ∧ tmps[7]?.getD undef = .pointer (some ⟨P + 3, 0, none⟩) ∧ tmps[8]?.getD undef = .pointer (some ⟨P + 4, 0, none⟩)
theorem five_res {w : World} {P : Nat} {A A1 A2 : Option Addr} {n0 c n1 c1 n2 c2 : Nat} {e k : Int} {tmps : Array Value} (ht : At5 tmps P) (h : Five w P (.slice A n0 c) (.int .i64 k) (.slice A1 n1 c1) (.slice A2 n2 c2) (.int .i64 e)) :
    (results Try.f37 tmps).run Try.prog w = .ok (.tuple #[.slice A n0 c, .int .i64 k, .slice A1 n1 c1, .slice A2 n2 c2, .int .i64 e]) w := by
  obtain ⟨h0, h1, h2, h3, h4⟩ := h
  obtain ⟨t0, t1, t2, t3, t4⟩ := ht
  have c0 := h0.cell
  have c1 := h1.cell
  have c2 := h2.cell
  have c3 := h3.cell
  have c4 := h4.cell
  simp [results, Try.results37, go_sem, c0, c1, c2, c3, c4, t0, t1, t2, t3, t4]
theorem door_pan {w wp : World} {P : Nat} {a : Act} {e : Nat} {v0 v1 v2 v3 v4 : Value} (hP : P = w.heap.size) (hd : a.defers = [{ target := .fn (.func 61) (five P), args := #[] }]) (ht : At5 a.tmps P)
    (hF : Five wp P v0 v1 v2 v3 v4) (hb : Below P w wp) :
    bodyPostD Try.prog Try.f37 (RetSeg w (segErr e)) (.panic [{ v := .iface 27 (.int .i64 (e : Int)), recovered := false }]) a wp := by
  subst hP
  dsimp only [bodyPostD]
  rw [hd]
  refine leaves_cons (f := 61) (args := five w.heap.size) (by simp) (by simp [go_sem]) ?_
  have hF2 := hF.caught (e : Int)
  obtain ⟨h0, h1, h2, h3, h4⟩ := hF
  refine (catch_pan w.heap.size (e : Int) [] wp v0 v1 v2 v3 v4 h0.cell h1.cell h2.cell h3.cell h4.cell h0.frozen h1.frozen h2.frozen h3.frozen h4.frozen).mono ?_
  rintro x u' w' ⟨rfl, rfl, rfl⟩
  simp only [settle, List.dropWhile_nil]
  exact ⟨_, five_res ht hF2, retSeg_err e (below_caught e hb)⟩
theorem door_ret {w wp : World} {P : Nat} {a : Act} {s : Seg} {A A1 A2 : Option Addr} {c c1 c2 : Nat} (hP : P = w.heap.size) (hd : a.defers = [{ target := .fn (.func 61) (five P), args := #[] }]) (ht : At5 a.tmps P)
    (hF : Five wp P (.slice A s.cols.length c) (.int .i64 (s.n : Int)) (.slice A1 s.lo.length c1) (.slice A2 s.hi.length c2) (.int .i64 (s.e : Int)))
    (h1 : RdVV wp wp.heap.size A s.cols) (h2 : Rd wp wp.heap.size A1 (vcells s.lo)) (h3 : Rd wp wp.heap.size A2 (vcells s.hi)) (hb : Below P w wp) :
    bodyPostD Try.prog Try.f37 (RetSeg w s) .ret a wp := by
  subst hP
  dsimp only [bodyPostD]
  rw [hd]
  refine leaves_cons (f := 61) (args := five w.heap.size) (by simp) (by simp [go_sem]) ?_
  refine (catch_idle w.heap.size wp).mono ?_
  rintro x u' w' ⟨rfl, rfl, rfl⟩
  dsimp only [settle]
  exact ⟨_, five_res ht hF, A, c, A1, c1, A2, c2, rfl, h1, h2, h3, hb⟩
theorem door_early {w wp : World} {P : Nat} {a : Act} {e : Nat} (hP : P = w.heap.size) (hd : a.defers = []) (ht : At5 a.tmps P)
    (hF : Five wp P (.slice none 0 0) (.int .i64 0) (.slice none 0 0) (.slice none 0 0) (.int .i64 (e : Int))) (hb : Below P w wp) :
    bodyPostD Try.prog Try.f37 (RetSeg w (segErr e)) .ret a wp := by
  subst hP
  dsimp only [bodyPostD]
  rw [hd]
  exact ⟨_, five_res ht hF, retSeg_err e hb⟩
end Go.Proofs.Ythkpgjcnnfdibaa

/-! Plain laws of layer 7: what a read meets is of a size. No program in sight. -/
namespace Go.Proofs.Ythkpgjcnnfdibaa
open Go.RowKit
set_option linter.unusedVariables false

theorem rbytes_le (M : Nat) (l : List V) (h : ∀ v ∈ l, i64r v.n ∧ v.t.length ≤ M) (hM : M ≤ 4294967296) : (rbytes l).length ≤ l.length * (10 + M) + l.length + 1 := by
  have h1 := bsAt_end l
  have h2 := bsAt_len l l.length
  rw [h1, List.take_length] at h2
  have h3 := flatv_bound M l h (by omega)
  unfold size8 at h2
  omega
theorem cgot_ok {t : UInt8} {p : List UInt8} {n : Int} (hp : p.length ≤ 1000000) : (cget t p n).1.length ≤ 65536 ∧ ∀ v ∈ (cget t p n).1, vsm v := by
  by_cases h : (cget t p n).2 = 0
  · obtain ⟨_, h1, h2, h3, _, _, h4⟩ := cget_inv (t := t) (b := p) (n := n) (m := (cget t p n).1) (Prod.ext rfl h)
    exact ⟨by omega, fun v hv => by obtain ⟨a, b, c⟩ := h4 v hv; exact ⟨a, b, by omega⟩⟩
  · rcases cget_errv (t := t) (b := p) (n := n) with h1 | h1 | h1
    · exact absurd h1 h
    · rw [h1.1]; simp
    · rw [h1.1]; simp
theorem rpart_le (b : List UInt8) : (rpart b).1.length ≤ b.length ∧ (rpart b).2.1.length ≤ b.length := by
  unfold rpart
  split
  · simp
  split
  · simp
  · constructor
    · rw [List.length_take, List.length_drop]; omega
    · rw [List.length_drop, List.length_drop]; omega
theorem rcols_at {T : List UInt8} {k : Nat} {t : UInt8} (h : T[k]? = some t) (n : Nat) (acc : List (List V)) (b : List UInt8) : rcols n (T.drop k) acc b =
    if (rpart b).2.2 ≠ 0 then ([], [], (rpart b).2.2)
    else if (cget t (rpart b).1 n).2 ≠ 0 then ([], [], (cget t (rpart b).1 n).2)
    else rcols n (T.drop (k + 1)) (acc ++ [(cget t (rpart b).1 n).1]) (rpart b).2.1 := by
  obtain ⟨hk, e⟩ := List.getElem?_eq_some_iff.1 h
  rw [List.drop_eq_getElem_cons hk, e, rcols]
end Go.Proofs.Ythkpgjcnnfdibaa

/-! Plain laws of layer 7: a segment's bytes and what is read from them are each other's; rows and columns; pieces. No program in sight. -/
namespace Go.Proofs.Ythkpgjcnnfdibaa
open Go.RowKit
set_option linter.unusedVariables false

/-! ### parts -/
theorem rpart_put (p x : List UInt8) (h : p.length < 18446744073709551616) : rpart (part1 p ++ x) = (p, x, 0) := by
  unfold rpart part1
  rw [List.append_assoc, vget_vput h]
  dsimp only
  rw [if_neg (by simp), List.drop_left, if_neg (by rw [List.length_append]; omega), List.take_left, List.drop_left]
theorem rpart_inv {b : List UInt8} (h : (rpart b).2.2 = 0) : b = part1 (rpart b).1 ++ (rpart b).2.1 := by
  unfold rpart at h ⊢
  by_cases h0 : (vget b).2.2 ≠ 0
  · rw [if_pos h0] at h; exact absurd h h0
  rw [if_neg h0] at h ⊢
  by_cases h1 : (b.drop (vget b).2.1).length < (vget b).1
  · rw [if_pos h1] at h; cases h
  rw [if_neg h1]
  dsimp only
  have h0' : (vget b).2.2 = 0 := by omega
  have hb := vget_cut (vget_eta h0')
  unfold part1
  rw [List.length_take, Nat.min_eq_left (by omega), List.append_assoc, List.take_append_drop]
  exact hb
/-! ### columns -/
def ColsOk (T : List UInt8) (n : Nat) (cs : List (List V)) : Prop :=
  cs.length = T.length ∧ ∀ (i : Nat) (t : UInt8) (l : List V), T[i]? = some t → cs[i]? = some l → colok t l = true ∧ l.length = n ∧ ∀ v ∈ l, vsm v
theorem ColsOk.cons {t : UInt8} {T : List UInt8} {n : Nat} {l : List V} {cs : List (List V)} : ColsOk (t :: T) n (l :: cs) ↔ (colok t l = true ∧ l.length = n ∧ ∀ v ∈ l, vsm v) ∧ ColsOk T n cs := by
  constructor
  · rintro ⟨h1, h2⟩
    exact ⟨h2 0 t l rfl rfl, by simpa using h1, fun i t' l' ht hl => h2 (i + 1) t' l' (by simpa using ht) (by simpa using hl)⟩
  · rintro ⟨h0, h1, h2⟩
    refine ⟨by simp [h1], fun i t' l' ht hl => ?_⟩
    cases i with
    | zero => simp at ht hl; subst ht hl; exact h0
    | succ i => exact h2 i t' l' (by simpa using ht) (by simpa using hl)
theorem ColsOk.mem {T : List UInt8} {n : Nat} {cs : List (List V)} (h : ColsOk T n cs) {l : List V} (hl : l ∈ cs) : l.length = n ∧ ∀ v ∈ l, vsm v := by
  obtain ⟨i, hi⟩ := List.getElem?_of_mem hl
  obtain ⟨t, ht⟩ : ∃ t, T[i]? = some t := ⟨_, List.getElem?_eq_getElem (by rw [← h.1]; exact (List.getElem?_eq_some_iff.1 hi).1)⟩
  exact (h.2 i t l ht hi).2
theorem ColsOk.good {T : List UInt8} {n : Nat} {cs : List (List V)} (h : ColsOk T n cs) {l : List V} (hl : l ∈ cs) : ∀ v ∈ l, good v := by
  intro v hv
  obtain ⟨i, hi⟩ := List.getElem?_of_mem hl
  obtain ⟨t, ht⟩ : ∃ t, T[i]? = some t := ⟨_, List.getElem?_eq_getElem (by rw [← h.1]; exact (List.getElem?_eq_some_iff.1 hi).1)⟩
  obtain ⟨h1, h2, h3⟩ := h.2 i t l ht hi
  have := (colok_parts h1).2.2 v hv
  unfold rmay at this
  rw [Bool.and_eq_true] at this
  exact ⟨this.1, (h3 v hv).2.1⟩
theorem vsm_sz {v : V} (h : vsm v) : i64r v.n ∧ v.t.length < 18446744073709551616 := ⟨h.2.1, by have := h.2.2; omega⟩
theorem ColsOk.low {T : List UInt8} {n : Nat} {cs : List (List V)} (hT : knownT T = true) (h : ColsOk T n cs) :
    (rowok T (least cs) = true ∧ rowok T (greatest cs) = true) ∧ ((∀ v ∈ least cs, vsm v) ∧ ∀ v ∈ greatest cs, vsm v) ∧
    rput T (least cs) = (rbytes (least cs), 0) ∧ rput T (greatest cs) = (rbytes (greatest cs), 0) ∧ rget T (rbytes (least cs)) = (least cs, 0) ∧ rget T (rbytes (greatest cs)) = (greatest cs, 0) := by
  obtain ⟨r1, r2⟩ := bnds_ok (T := T) h.1 (fun i t l ht hl => (colok_parts (h.2 i t l ht hl).1).2.2)
  obtain ⟨s1, s2⟩ := least_vsm (fun l hl => (h.mem hl).2)
  have g1 := Rw.row_get_put hT r1 (fun v hv => vsm_sz (s1 v hv)) []
  have g2 := Rw.row_get_put hT r2 (fun v hv => vsm_sz (s2 v hv)) []
  rw [List.append_nil, if_pos rfl] at g1 g2
  refine ⟨⟨r1, r2⟩, ⟨s1, s2⟩, ?_, ?_, g1, g2⟩
  · unfold rput; rw [hT, r1]; rfl
  · unfold rput; rw [hT, r2]; rfl
theorem rcols_put (n : Nat) : ∀ (T : List UInt8) (cs acc : List (List V)) (x : List UInt8), ColsOk T n cs → ((T.zip cs).flatMap cpart).length < 18446744073709551616 → rcols n T acc ((T.zip cs).flatMap cpart ++ x) = (acc ++ cs, x, 0)
  | [], [], acc, x, _, _ => by simp [rcols]
  | [], l :: cs, acc, x, h, _ => by have := h.1; simp at this
  | t :: T, [], acc, x, h, _ => by have := h.1; simp at this
  | t :: T, l :: cs, acc, x, h, hs => by
    obtain ⟨⟨h1, h2, h3⟩, h4⟩ := ColsOk.cons.1 h
    rw [List.zip_cons_cons, List.flatMap_cons, List.length_append] at hs
    have hp : (cput t l).1.length ≤ (cpart (t, l)).length := part1_le _
    rw [List.zip_cons_cons, List.flatMap_cons, List.append_assoc, rcols]
    rw [show cpart (t, l) = part1 (cput t l).1 from rfl, rpart_put _ _ (by omega)]
    dsimp only
    have hg := (cget_put h1 (fun v hv => vsm_sz (h3 v hv)) []).1 rfl
    rw [List.append_nil, h2] at hg
    rw [if_neg (by simp), hg]
    dsimp only
    rw [if_neg (by simp), rcols_put n T cs _ x h4 (by omega), List.append_assoc]
    rfl
theorem rcols_inv (n : Nat) : ∀ (T : List UInt8) (acc : List (List V)) (b : List UInt8), b.length ≤ 1000000 → (rcols n T acc b).2.2 = 0 →
    ∃ ds, (rcols n T acc b).1 = acc ++ ds ∧ ColsOk T n ds ∧ b = (T.zip ds).flatMap cpart ++ (rcols n T acc b).2.1
  | [], acc, b, hb, h => ⟨[], by simp [rcols], ⟨rfl, by simp⟩, by simp [rcols]⟩
  | t :: T, acc, b, hb, h => by
    rw [rcols] at h ⊢
    by_cases h1 : (rpart b).2.2 ≠ 0
    · rw [if_pos h1] at h; exact absurd h h1
    rw [if_neg h1] at h ⊢
    by_cases h2 : (cget t (rpart b).1 n).2 ≠ 0
    · rw [if_pos h2] at h; exact absurd h h2
    rw [if_neg h2] at h ⊢
    have hle := rpart_le b
    obtain ⟨ds, e1, e2, e3⟩ := rcols_inv n T _ _ (by omega) h
    obtain ⟨_, _, _, g1, g2, g3, g4⟩ := cget_inv (t := t) (b := (rpart b).1) (n := n) (m := (cget t (rpart b).1 n).1) (Prod.ext rfl (by simpa using h2))
    refine ⟨(cget t (rpart b).1 n).1 :: ds, by rw [e1, List.append_assoc]; rfl, ColsOk.cons.2 ⟨⟨g2, by omega, fun v hv => ?_⟩, e2⟩, ?_⟩
    · obtain ⟨q1, q2, q3⟩ := g4 v hv
      exact ⟨q1, q2, by omega⟩
    · rw [List.zip_cons_cons, List.flatMap_cons, List.append_assoc, ← e3]
      rw [show cpart (t, (cget t (rpart b).1 n).1) = part1 (rpart b).1 by unfold cpart; rw [g3]]
      exact rpart_inv (by omega)
/-! ### a segment there and back -/
theorem sread_put {T : List UInt8} {n : Nat} {cs : List (List V)} (x : List UInt8) (hT : knownT T = true) (hn : n ≤ 65536) (hc : ColsOk T n cs) (hs : (segBytes T n cs).length < 18446744073709551616) :
    sread T (segBytes T n cs ++ x) = if x = [] then ⟨cs, n, least cs, greatest cs, 0⟩ else segErr 21 := by
  obtain ⟨_, _, p1, p2, g1, g2⟩ := ColsOk.low hT hc
  have hle := segHead_le T n cs
  have hB : segBytes T n cs = vput n ++ (part1 (rbytes (least cs)) ++ (part1 (rbytes (greatest cs)) ++ (T.zip cs).flatMap cpart)) := by
    unfold segBytes segHead
    rw [p1, p2]
    simp only [List.append_assoc]
  have hl2 := congrArg List.length hB
  rw [p1, p2] at hle
  simp only [List.length_append] at hl2
  have hlx : (rbytes (least cs)).length ≤ (part1 (rbytes (least cs))).length := part1_le _
  have hly : (rbytes (greatest cs)).length ≤ (part1 (rbytes (greatest cs))).length := part1_le _
  rw [hB]
  simp only [List.append_assoc]
  unfold sread
  rw [vget_vput (by omega)]
  dsimp only
  rw [if_neg (by simp), if_neg (by omega), List.drop_left, rpart_put _ _ (by omega)]
  unfold sread1
  dsimp only
  rw [if_neg (by simp), g1]
  unfold sread2
  dsimp only
  rw [if_neg (by simp), rpart_put _ _ (by omega)]
  unfold sread3
  dsimp only
  rw [if_neg (by simp), g2]
  unfold sread4
  dsimp only
  rw [if_neg (by simp), rcols_put n T cs [] x hc (by omega)]
  unfold sread5
  dsimp only
  rw [if_neg (by simp), List.nil_append, p1, p2]
  by_cases hx : x = []
  · rw [if_neg (by simp [hx]), if_pos hx]
  · rw [if_pos (.inl hx), if_neg hx]
theorem cmp_row {T a : List UInt8} {lo l : List V} (hT : knownT T = true) (ha : a.length ≤ maxLen) (hg : rget T a = (lo, 0)) (hr : rowok T l = true) (hv : ∀ v ∈ l, vsm v) : (rput T l).1 = a ↔ l = lo := by
  obtain ⟨_, h1, h2, h3⟩ := Rw.row_put_get ha hg
  have hp : (rput T l).1 = rbytes l := by unfold rput; rw [hT, hr]; rfl
  rw [hp, ← h2]
  exact Rw.rb_inj hT hr h1 (fun v hv' => vsm_sz (hv v hv')) (fun v hv' => ⟨(h3 v hv').2.1, by have := (h3 v hv').2.2; unfold maxLen at this; omega⟩)
theorem sread_inv {T b : List UInt8} (hT : knownT T = true) (hb : b.length ≤ 1000000) (h : (sread T b).e = 0) :
    ∃ cs n, n ≤ 65536 ∧ ColsOk T n cs ∧ b = segBytes T n cs ∧ sread T b = ⟨cs, n, least cs, greatest cs, 0⟩ := by
  have hm : (1000000 : Nat) ≤ maxLen := by unfold maxLen; omega
  unfold sread at h ⊢
  by_cases h0 : (vget b).2.2 ≠ 0
  · rw [if_pos h0] at h; exact absurd h h0
  rw [if_neg h0] at h ⊢
  by_cases h1 : 65536 < (vget b).1
  · rw [if_pos h1] at h; cases h
  rw [if_neg h1] at h ⊢
  have hbv := vget_cut (vget_eta (show (vget b).2.2 = 0 by omega))
  obtain ⟨n, hn⟩ : ∃ n, n = (vget b).1 := ⟨_, rfl⟩
  obtain ⟨r, hr⟩ : ∃ r, r = b.drop (vget b).2.1 := ⟨_, rfl⟩
  have hrl : r.length ≤ 1000000 := by rw [hr, List.length_drop]; omega
  rw [← hn, ← hr] at h hbv ⊢
  have hn2 : n ≤ 65536 := by omega
  unfold sread1 at h ⊢
  by_cases h2 : (rpart r).2.2 ≠ 0
  · rw [if_pos h2] at h; exact absurd h h2
  rw [if_neg h2] at h ⊢
  have hp := rpart_inv (show (rpart r).2.2 = 0 by omega)
  have hq := rpart_le r
  obtain ⟨a, ha⟩ : ∃ a, a = (rpart r).1 := ⟨_, rfl⟩
  obtain ⟨s, hs⟩ : ∃ s, s = (rpart r).2.1 := ⟨_, rfl⟩
  rw [← ha, ← hs] at h hp hq ⊢
  unfold sread2 at h ⊢
  by_cases h3 : (rget T a).2 ≠ 0
  · rw [if_pos h3] at h; exact absurd h h3
  rw [if_neg h3] at h ⊢
  have hg : rget T a = ((rget T a).1, 0) := Prod.ext rfl (by simpa using h3)
  obtain ⟨lo, hlo⟩ : ∃ lo, lo = (rget T a).1 := ⟨_, rfl⟩
  rw [← hlo] at h hg ⊢
  unfold sread3 at h ⊢
  by_cases h4 : (rpart s).2.2 ≠ 0
  · rw [if_pos h4] at h; exact absurd h h4
  rw [if_neg h4] at h ⊢
  have hp2 := rpart_inv (show (rpart s).2.2 = 0 by omega)
  have hq2 := rpart_le s
  obtain ⟨y, hy⟩ : ∃ y, y = (rpart s).1 := ⟨_, rfl⟩
  obtain ⟨u, hu⟩ : ∃ u, u = (rpart s).2.1 := ⟨_, rfl⟩
  rw [← hy, ← hu] at h hp2 hq2 ⊢
  unfold sread4 at h ⊢
  by_cases h5 : (rget T y).2 ≠ 0
  · rw [if_pos h5] at h; exact absurd h h5
  rw [if_neg h5] at h ⊢
  have hg2 : rget T y = ((rget T y).1, 0) := Prod.ext rfl (by simpa using h5)
  obtain ⟨hi, hhi⟩ : ∃ hi, hi = (rget T y).1 := ⟨_, rfl⟩
  rw [← hhi] at h hg2 ⊢
  unfold sread5 at h ⊢
  by_cases h6 : (rcols n T [] u).2.2 ≠ 0
  · rw [if_pos h6] at h; exact absurd h h6
  rw [if_neg h6] at h ⊢
  obtain ⟨cs, e1, e2, e3⟩ := rcols_inv n T [] u (by omega) (show (rcols n T [] u).2.2 = 0 by omega)
  rw [List.nil_append] at e1
  rw [e1] at h ⊢
  obtain ⟨⟨r1, r2⟩, ⟨s1, s2⟩, p1, p2, g1, g2⟩ := ColsOk.low hT e2
  split at h
  · cases h
  · rename_i h7
    rw [if_neg h7]
    have h8 : (rcols n T [] u).2.1 = [] := Decidable.byContradiction fun h => h7 (.inl h)
    have h9 : (rput T (least cs)).1 = a := Decidable.byContradiction fun h => h7 (.inr (.inl h))
    have h10 : (rput T (greatest cs)).1 = y := Decidable.byContradiction fun h => h7 (.inr (.inr h))
    have q1 := (cmp_row hT (by omega) hg r1 s1).1 h9
    have q2 := (cmp_row hT (by omega) hg2 r2 s2).1 h10
    refine ⟨cs, n, hn2, e2, ?_, by rw [q1, q2]⟩
    unfold segBytes segHead
    rw [h9, h10, hbv, hp, hp2, e3, h8, List.append_nil]
    simp only [List.append_assoc]
/-! ### rows and columns -/
theorem rowsOf_cols {T : List UInt8} {rows : List (List V)} (h : ∀ r ∈ rows, r.length = T.length) : rowsOf rows.length (colsOf T.length rows) = rows := by
  apply List.ext_getElem?
  intro k
  rcases Nat.lt_or_ge k rows.length with hk | hk
  · rw [rowsOf_at _ hk, List.getElem?_eq_getElem hk]
    congr 1
    have hr := h _ (List.getElem_mem hk)
    obtain ⟨r, hr0⟩ : ∃ r, r = rows[k] := ⟨_, rfl⟩
    have hr1 : rows[k]? = some r := by rw [hr0]; exact List.getElem?_eq_getElem hk
    rw [← hr0] at hr ⊢
    apply List.ext_getElem?
    intro i
    rw [List.getElem?_map]
    rcases Nat.lt_or_ge i T.length with hi | hi
    · rw [colsOf_at _ hi, Option.map_some, colAt_at hr1, Option.getD_some, List.getElem?_eq_getElem (by omega)]
      rfl
    · rw [List.getElem?_eq_none (by rw [colsOf_length]; exact hi), List.getElem?_eq_none (by omega)]
      rfl
  · rw [List.getElem?_eq_none (by rw [rowsOf_length]; exact hk), List.getElem?_eq_none hk]
theorem colsOf_rows {T : List UInt8} {n : Nat} {cs : List (List V)} (h : cs.length = T.length) (hn : ∀ l ∈ cs, l.length = n) : colsOf T.length (rowsOf n cs) = cs := by
  apply List.ext_getElem?
  intro i
  rcases Nat.lt_or_ge i T.length with hi | hi
  · rw [colsOf_at _ hi]
    obtain ⟨l, hl⟩ : ∃ l, cs[i]? = some l := ⟨_, List.getElem?_eq_getElem (by omega)⟩
    rw [hl]
    have hln := hn l (List.mem_of_getElem? hl)
    congr 1
    apply List.ext_getElem?
    intro k
    rcases Nat.lt_or_ge k n with hk | hk
    · rw [colAt_at (rowsOf_at cs hk), List.getElem?_map, hl, Option.map_some, Option.getD_some, List.getElem?_eq_getElem (by omega), Option.getD_some]
    · rw [List.getElem?_eq_none (by rw [colAt_length, rowsOf_length]; exact hk), List.getElem?_eq_none (by omega)]
  · rw [List.getElem?_eq_none (by rw [colsOf_length]; exact hi), List.getElem?_eq_none (by omega)]
theorem ColsOk.rows {T : List UInt8} {n : Nat} {cs : List (List V)} (h : ColsOk T n cs) : rowsOk T (rowsOf n cs) = true ∧ (∀ r ∈ rowsOf n cs, r.length = T.length) ∧ ∀ r ∈ rowsOf n cs, ∀ v ∈ r, vsm v := by
  have key : ∀ r ∈ rowsOf n cs, ∃ k, k < n ∧ r = cs.map fun c => c[k]?.getD null := fun r hr => by
    unfold rowsOf at hr
    obtain ⟨k, hk, rfl⟩ := List.mem_map.1 hr
    exact ⟨k, List.mem_range.1 hk, rfl⟩
  refine ⟨List.all_eq_true.2 fun r hr => ?_, fun r hr => ?_, fun r hr v hv => ?_⟩
  · obtain ⟨k, hk, rfl⟩ := key r hr
    unfold rowok
    rw [Bool.and_eq_true]
    refine ⟨by simp [h.1], mays_of _ _ fun i t v ht hv => ?_⟩
    rw [List.getElem?_map] at hv
    obtain ⟨l, hl, rfl⟩ := Option.map_eq_some_iff.1 hv
    obtain ⟨h1, h2, h3⟩ := h.2 i t l ht hl
    refine (colok_parts h1).2.2 _ ?_
    rw [List.getElem?_eq_getElem (by omega), Option.getD_some]
    exact List.getElem_mem _
  · obtain ⟨k, hk, rfl⟩ := key r hr
    rw [List.length_map]; exact h.1
  · obtain ⟨k, hk, rfl⟩ := key r hr
    obtain ⟨l, hl, rfl⟩ := List.mem_map.1 hv
    obtain ⟨h2, h3⟩ := h.mem hl
    refine h3 _ ?_
    rw [List.getElem?_eq_getElem (by omega), Option.getD_some]
    exact List.getElem_mem _
theorem colsOk_of {T : List UInt8} {rows : List (List V)} (hT : knownT T = true) (hr : rowsOk T rows = true) (hl : rows.length ≤ 65536) (hv : ∀ r ∈ rows, ∀ v ∈ r, vsm v) : ColsOk T rows.length (colsOf T.length rows) := by
  refine ⟨colsOf_length _ _, fun i t l ht hl2 => ?_⟩
  rw [colsOf_at rows (List.getElem?_eq_some_iff.1 ht).1] at hl2
  simp at hl2
  subst hl2
  exact ⟨col_ok hT hr hl ht, colAt_length _ _, colAt_vsm hv i⟩
/-! ### pieces -/
theorem pcsOk_iff {ps : List (List UInt8)} : pcsOk ps = true ↔ ∀ (i : Nat) (p : List UInt8), ps[i]? = some p → (i + 1 < ps.length → p.length = 1000) ∧ 1 ≤ p.length ∧ p.length ≤ 1000 := by
  have hpc : ∀ (i : Nat) (p : List UInt8), pcOk ps.length i p = true ↔ (i + 1 < ps.length → p.length = 1000) ∧ 1 ≤ p.length ∧ p.length ≤ 1000 := fun i p => by
    unfold pcOk
    rw [Bool.not_eq_true', Bool.or_eq_false_iff, Bool.or_eq_false_iff, Bool.and_eq_false_iff, decide_eq_false_iff_not, decide_eq_false_iff_not, decide_eq_false_iff_not, decide_eq_false_iff_not]
    omega
  unfold pcsOk
  rw [List.all_eq_true]
  constructor
  · intro h i p hp
    have := h i (List.mem_range.2 (List.getElem?_eq_some_iff.1 hp).1)
    rw [hp, Option.getD_some] at this
    exact (hpc i p).1 this
  · intro h i hi
    rw [List.mem_range] at hi
    rw [List.getElem?_eq_getElem hi, Option.getD_some]
    exact (hpc _ _).2 (h i _ (List.getElem?_eq_getElem hi))
theorem chunk_ok {b : List UInt8} (hb : b ≠ []) : pcsOk (chunk b) = true ∧ (chunk b).length ≠ 0 := by
  have hl : 0 < b.length := List.length_pos_iff.2 hb
  have hm : 0 < many b.length := by unfold many; omega
  refine ⟨pcsOk_iff.2 fun i p hp => ?_, by rw [chunk_length]; omega⟩
  have hi := (List.getElem?_eq_some_iff.1 hp).1
  rw [chunk_length] at hi ⊢
  rw [chunk_at hi] at hp
  simp at hp
  subst hp
  rw [pieceAt_length]
  unfold many at hi ⊢
  omega
theorem chunk_cons {p b : List UInt8} (hp : p.length = 1000) : chunk (p ++ b) = p :: chunk b := by
  unfold chunk
  rw [List.length_append, hp, show many (1000 + b.length) = many b.length + 1 by unfold many; omega, List.range_succ_eq_map, List.map_cons, List.map_map]
  congr 1
  · unfold pieceAt
    rw [Nat.mul_zero, List.drop_zero, List.take_left' hp]
  · refine List.map_congr_left fun i _ => ?_
    show pieceAt (p ++ b) (i + 1) = pieceAt b i
    unfold pieceAt
    rw [show 1000 * (i + 1) = 1000 + 1000 * i by omega, ← List.drop_drop, List.drop_left' hp]
theorem chunk_one {p : List UInt8} (h1 : 1 ≤ p.length) (h2 : p.length ≤ 1000) : chunk p = [p] := by
  unfold chunk
  rw [show many p.length = 1 by unfold many; omega]
  show [pieceAt p 0] = [p]
  unfold pieceAt
  rw [Nat.mul_zero, List.drop_zero, List.take_of_length_le h2]
theorem flat_chunk : ∀ (ps : List (List UInt8)), pcsOk ps = true → ps.length ≠ 0 → chunk ps.flatten = ps
  | [], _, h => absurd rfl h
  | [p], h, _ => by
    obtain ⟨_, h1, h2⟩ := pcsOk_iff.1 h 0 p rfl
    rw [List.flatten_cons, List.flatten_nil, List.append_nil]
    exact chunk_one h1 h2
  | p :: q :: ps, h, _ => by
    have h0 := (pcsOk_iff.1 h 0 p rfl).1 (by simp)
    have hr : pcsOk (q :: ps) = true := pcsOk_iff.2 fun i x hx => by
      obtain ⟨a, b⟩ := pcsOk_iff.1 h (i + 1) x (by simpa using hx)
      exact ⟨fun hi => a (by simp at hi ⊢; omega), b⟩
    rw [List.flatten_cons, chunk_cons h0, flat_chunk (q :: ps) hr (by simp)]
/-! ### a segment's pieces there and back -/
theorem sopen_put {T : List UInt8} {n : Nat} {cs : List (List V)} (hT : knownT T = true) (hn : n ≤ 65536) (hc : ColsOk T n cs) (hs : (segBytes T n cs).length < 18446744073709551616) :
    sopen T (chunk (segBytes T n cs)) = ⟨cs, n, least cs, greatest cs, 0⟩ := by
  have hpos : segBytes T n cs ≠ [] := List.ne_nil_of_length_pos (segBytes_pos T n cs)
  obtain ⟨h1, h2⟩ := chunk_ok hpos
  have h3 := sread_put [] hT hn hc hs
  rw [List.append_nil, if_pos rfl] at h3
  unfold sopen
  rw [if_neg (by simp [hT]), if_neg (by simp [h1]), if_neg h2, chunk_flat, h3]
theorem sopen_inv {T : List UInt8} {ps : List (List UInt8)} (hb : ps.flatten.length ≤ 1000000) (h : (sopen T ps).e = 0) :
    knownT T = true ∧ ∃ cs n, n ≤ 65536 ∧ ColsOk T n cs ∧ ps = chunk (segBytes T n cs) ∧ sopen T ps = ⟨cs, n, least cs, greatest cs, 0⟩ := by
  unfold sopen at h ⊢
  by_cases h1 : knownT T = false
  · rw [if_pos h1] at h; cases h
  rw [if_neg h1] at h ⊢
  by_cases h2 : pcsOk ps = false
  · rw [if_pos h2] at h; cases h
  rw [if_neg h2] at h ⊢
  by_cases h3 : ps.length = 0
  · rw [if_pos h3] at h; cases h
  rw [if_neg h3] at h ⊢
  have hT : knownT T = true := by simpa using h1
  obtain ⟨cs, n, e1, e2, e3, e4⟩ := sread_inv hT hb h
  exact ⟨hT, cs, n, e1, e2, by rw [← e3]; exact (flat_chunk ps (by simpa using h2) h3).symm, e4⟩
theorem segErr_or (T : List UInt8) (ps : List (List UInt8)) (hb : ps.flatten.length ≤ 1000000) : (sopen T ps).e = 0 ∨ sopen T ps = segErr (sopen T ps).e := by
  have k5 : ∀ n a b lo hi r, (sread5 T n a b lo hi r).e = 0 ∨ sread5 T n a b lo hi r = segErr (sread5 T n a b lo hi r).e := fun n a b lo hi r => by
    unfold sread5
    split
    · exact .inr rfl
    split
    · exact .inr rfl
    · exact .inl rfl
  have k4 : ∀ n a b lo rest g, (sread4 T n a b lo rest g).e = 0 ∨ sread4 T n a b lo rest g = segErr (sread4 T n a b lo rest g).e := fun n a b lo rest g => by
    unfold sread4
    split
    · exact .inr rfl
    · exact k5 _ _ _ _ _ _
  have k3 : ∀ n a lo p, (sread3 T n a lo p).e = 0 ∨ sread3 T n a lo p = segErr (sread3 T n a lo p).e := fun n a lo p => by
    unfold sread3
    split
    · exact .inr rfl
    · exact k4 _ _ _ _ _ _
  have k2 : ∀ n a rest g, (sread2 T n a rest g).e = 0 ∨ sread2 T n a rest g = segErr (sread2 T n a rest g).e := fun n a rest g => by
    unfold sread2
    split
    · exact .inr rfl
    · exact k3 _ _ _ _
  unfold sopen
  split
  · exact .inr rfl
  split
  · exact .inr rfl
  split
  · exact .inr rfl
  unfold sread
  split
  · exact .inr rfl
  split
  · exact .inr rfl
  unfold sread1
  split
  · exact .inr rfl
  · exact k2 _ _ _ _
end Go.Proofs.Ythkpgjcnnfdibaa

/-! Moves in a function with deferred calls, where a region's order is drawn (layer 7): a call that may panic; a panic looks at the results' cells alone. No condition. -/
namespace Go.Proofs.Ythkpgjcnnfdibaa
open Go.RowKit Go.Maps
set_option linter.unusedVariables false
set_option linter.unusedSimpArgs false

theorem leaves_tmps {P : Program} {fn : Func} {tmps tmps' : Array Value} {R : Ending → World → Prop} (h : results fn tmps = results fn tmps') : ∀ (ds : List Deferred) (u : FrameMode) (w : World), Leaves P fn tmps R ds u w → Leaves P fn tmps' R ds u w := by
  intro ds
  induction ds with
  | nil =>
    intro u w hl
    cases u with
    | run => exact hl
    | returning => obtain ⟨v, h1, h2⟩ := hl; exact ⟨v, h ▸ h1, h2⟩
    | panicking c => exact hl
  | cons d ds ih =>
    intro u w hl
    obtain ⟨h1, fv, cap, f, args, h2, h3, h4⟩ := hl
    refine ⟨h1, fv, cap, f, args, h2, h3, fun c cs hc => ?_⟩
    obtain ⟨e, u', w', fr, hR, hrest⟩ := h4 c cs hc
    refine ⟨e, u', w', fr, ?_, hrest⟩
    cases e with
    | returned v => exact ih _ _ hR
    | panicked c => exact ih _ _ hR
    | outgrown => exact hR
theorem read_results (tmps : Array Value) (d : Nat) (v : Value) (hd : 9 ≤ d) : results Try.f37 (tmps.setIfInBounds d v) = results Try.f37 tmps := by
  have h4 : d ≠ 4 := by omega
  have h5 : d ≠ 5 := by omega
  have h6 : d ≠ 6 := by omega
  have h7 : d ≠ 7 := by omega
  have h8 : d ≠ 8 := by omega
  simp [results, Try.results37, Array.getElem?_setIfInBounds, h4, h5, h6, h7, h8]
theorem pan_put {R : Ending → World → Prop} {c : List PanicEntry} {a : Act} {w : World} {d : Nat} {v : Value} (hd : 9 ≤ d) (h : bodyPostD Try.prog Try.f37 R (.panic c) (a.put (some d) v) w) : bodyPostD Try.prog Try.f37 R (.panic c) a w := by
  dsimp only [bodyPostD, Act.put] at h ⊢
  exact leaves_tmps (read_results a.tmps d v hd) _ _ _ h
/-- one slice more, of fresh memory; the slices known -/
theorem OwnN.snoc2 {β : Type} {f : β → List Value} {n : β → Nat} {To Ti : TypeId} {sz : Nat} {wM w : World} {base : Nat} {v : Value} {bs : List β} {b : β} {s : Option Addr × Nat × Nat} (hTi : To ≠ Ti) (h : OwnN f n To Ti sz wM base v bs) (hb : Below wM.heap.size wM w) (hbase : base ≤ wM.heap.size)
    (hs : s.2.1 = n b) (hin : w.ownsRow wM.heap.size Ti sz (sl3 s) (n b) (f b)) :
    ∃ ss : List (Option Addr × Nat × Nat), w.ownsRow base To 1 v ss.length (ss.map sl3) ∧ ss.length = bs.length ∧ ∀ (w' : World) (v' : Value), (w'.ownsRow base To 1 v' (ss.length + 1) (ss.map sl3 ++ [sl3 s]) → w.grownBy w' v.ownBlock → OwnN f n To Ti sz w' base v' (bs ++ [b])) := by
  obtain ⟨ss, h1, h2, h3, h4⟩ := h
  have h2' := own_bel h2 hb
  refine ⟨ss, h2', h1, fun w' v' happ hg => ?_⟩
  have apo : ∀ {base' k : Nat} {u : Value} {xs : List Value}, w.ownsRow base' Ti sz u k xs → w'.ownsRow base' Ti sz u k xs := fun hu => own_grown hu hg (Ap.ne (own_type hu h2' (Ne.symm hTi)))
  refine ⟨ss ++ [s], by simp [h1], ?_, fun i u b' hu hi => ?_, fun i j u x hij hu hx => ?_⟩
  · rw [List.length_append, List.map_append]
    exact happ
  · rcases Nat.lt_or_ge i ss.length with hlt | hge
    · rw [List.getElem?_append_left hlt] at hu
      rw [List.getElem?_append_left (by omega)] at hi
      obtain ⟨a1, a2⟩ := h3 i u b' hu hi
      exact ⟨a1, apo (own_bel a2 hb)⟩
    · have hi0 : i = ss.length := by
        have := (List.getElem?_eq_some_iff.1 hu).1
        simp at this; omega
      subst hi0
      rw [List.getElem?_append_right (Nat.le_refl _)] at hu
      rw [h1, List.getElem?_append_right (Nat.le_refl _)] at hi
      simp at hu hi
      subst hu hi
      exact ⟨hs, apo (own_lower hin hbase)⟩
  · have key : ∀ (i : Nat) (u : Option Addr × Nat × Nat), ss[i]? = some u → Ap (sl3 u) (sl3 s) := fun i u hu => by
      have hlt := (List.getElem?_eq_some_iff.1 hu).1
      obtain ⟨b', hb'⟩ : ∃ b', bs[i]? = some b' := ⟨_, List.getElem?_eq_getElem (by omega)⟩
      have a2 := (h3 i u b' hu hb').2
      unfold Ap
      rcases hx : (sl3 u).ownBlock with _ | g
      · exact .inl rfl
      · right
        intro e
        have := (a2.lt g hx).2
        have := (hin.lt g e.symm).1
        omega
    rcases Nat.lt_or_ge i ss.length with hi | hi <;> rcases Nat.lt_or_ge j ss.length with hj | hj
    · rw [List.getElem?_append_left hi] at hu
      rw [List.getElem?_append_left hj] at hx
      exact h4 i j u x hij hu hx
    · rw [List.getElem?_append_left hi] at hu
      have : j = ss.length := by have := (List.getElem?_eq_some_iff.1 hx).1; simp at this; omega
      subst this
      rw [List.getElem?_append_right (Nat.le_refl _)] at hx
      simp at hx; subst hx
      exact key i u hu
    · rw [List.getElem?_append_left hj] at hx
      have : i = ss.length := by have := (List.getElem?_eq_some_iff.1 hu).1; simp at this; omega
      subst this
      rw [List.getElem?_append_right (Nat.le_refl _)] at hu
      simp at hu; subst hu
      exact (key j x hx).symm
    · have e1 : i = ss.length := by have := (List.getElem?_eq_some_iff.1 hu).1; simp at this; omega
      have e2 : j = ss.length := by have := (List.getElem?_eq_some_iff.1 hx).1; simp at this; omega
      omega
theorem OwnN.app {β : Type} {f : β → List Value} {n : β → Nat} {To Ti : TypeId} {sz : Nat} {wM w : World} {base : Nat} {v : Value} {bs : List β} {b : β} {s : Option Addr × Nat × Nat} (hTi : To ≠ Ti) (h : OwnN f n To Ti sz wM base v bs) (hb : Below wM.heap.size wM w) (hbase : base ≤ wM.heap.size)
    (hs : s.2.1 = n b) (hin : w.ownsRow wM.heap.size Ti sz (sl3 s) (n b) (f b)) (o : Obj) :
    ∃ ss : List (Option Addr × Nat × Nat), (w.alloc o).ownsRow base To 1 v ss.length (ss.map sl3) ∧ ss.length = bs.length ∧ ∀ (w' : World) (v' : Value), w'.ownsRow base To 1 v' (ss.length + 1) (ss.map sl3 ++ [sl3 s]) → (w.alloc o).grownBy w' v.ownBlock → OwnN f n To Ti sz w' base v' (bs ++ [b]) :=
  OwnN.snoc2 hTi h (hb.alloc hb.size _) hbase hs (hin.alloc _)
theorem door_panS {w wp : World} {P : Nat} {a : Act} {e : Nat} {s : Seg} {v0 v1 v2 v3 v4 : Value} (hs : s = segErr e) (hP : P = w.heap.size) (hd : a.defers = [{ target := .fn (.func 61) (five P), args := #[] }]) (ht : At5 a.tmps P)
    (hF : Five wp P v0 v1 v2 v3 v4) (hb : Below P w wp) :
    bodyPostD Try.prog Try.f37 (RetSeg w s) (.panic [{ v := .iface 27 (.int .i64 (e : Int)), recovered := false }]) a wp := by
  subst hs
  exact door_pan hP hd ht hF hb
/-- all is read: the results lie in their cells -/
def Done (w : World) (P R : Nat) (n : Nat) (acc : List (List V)) (lo hi : List V) (A3 A9 A12 : Option Addr) (c3 c9 c12 : Nat) (w' : World) : Prop :=
  Five w' P (.slice A3 acc.length c3) (.int .i64 (n : Int)) (.slice A9 lo.length c9) (.slice A12 hi.length c12) (.int .i64 ((0 : Nat) : Int)) ∧ Below P w w' ∧ P + 5 ≤ R ∧
  OwnVV w' (R + 1) (.slice A3 acc.length c3) acc ∧ w'.ownsRow (R + 1) 46 3 (.slice A9 lo.length c9) lo.length (vcells lo) ∧ w'.ownsRow (R + 1) 46 3 (.slice A12 hi.length c12) hi.length (vcells hi)
section
variable {w : World} {P R n : Nat} {acc : List (List V)} {lo hi : List V} {A3 A9 A12 : Option Addr} {c3 c9 c12 : Nat} {w' : World}
theorem Done.put (h : Done w P R n acc lo hi A3 A9 A12 c3 c9 c12 w') (i : Nat) (hi5 : i < 5) (v : Value)
    (hF : Five (w'.setCell ⟨P + i, 0, none⟩ v) P (.slice A3 acc.length c3) (.int .i64 (n : Int)) (.slice A9 lo.length c9) (.slice A12 hi.length c12) (.int .i64 ((0 : Nat) : Int))) : Done w P R n acc lo hi A3 A9 A12 c3 c9 c12 (w'.setCell ⟨P + i, 0, none⟩ v) := by
  obtain ⟨_, h1, h2, h3, h4, h5⟩ := h
  exact ⟨hF, h1.setCell (p := ⟨P + i, 0, none⟩) (by simp) _, h2, OwnN.box h3 (grown_set _ _ _ _) (by omega), own_box h4 (grown_set _ _ _ _) (by omega), own_box h5 (grown_set _ _ _ _) (by omega)⟩
theorem Done.cells (h : Done w P R n acc lo hi A3 A9 A12 c3 c9 c12 w') : w'.cell? ⟨P, 0, none⟩ = some (.slice A3 acc.length c3) ∧ w'.cell? ⟨P + 1, 0, none⟩ = some (.int .i64 (n : Int)) ∧ w'.cell? ⟨P + 2, 0, none⟩ = some (.slice A9 lo.length c9) ∧ w'.cell? ⟨P + 3, 0, none⟩ = some (.slice A12 hi.length c12) ∧ w'.cell? ⟨P + 4, 0, none⟩ = some (.int .i64 ((0 : Nat) : Int)) :=
  ⟨h.1.1.cell, h.1.2.1.cell, h.1.2.2.1.cell, h.1.2.2.2.1.cell, h.1.2.2.2.2.cell⟩
theorem Done.icy (h : Done w P R n acc lo hi A3 A9 A12 c3 c9 c12 w') : w'.frozen? ⟨P, 0, none⟩ = false ∧ w'.frozen? ⟨P + 1, 0, none⟩ = false ∧ w'.frozen? ⟨P + 2, 0, none⟩ = false ∧ w'.frozen? ⟨P + 3, 0, none⟩ = false ∧ w'.frozen? ⟨P + 4, 0, none⟩ = false :=
  ⟨h.1.1.frozen, h.1.2.1.frozen, h.1.2.2.1.frozen, h.1.2.2.2.1.frozen, h.1.2.2.2.2.frozen⟩
end
theorem eff_go {S : World → Prop} {W K : Act → World → Prop} {a' : Act} {w' : World} (hK : ∀ a' w', S w' → W a' w' → K a' w') (hs : S w') (h : S w' → W a' w') : K a' w' := hK a' w' hs (h hs)
section
variable {P : Program} {l : List Oper} {Q : Exit → Act → World → Prop} {S : World → Prop}
theorem mv_callp (i : Nat) {oi : Oper} {f : FuncId} {args : Array Value} {fuel : Nat} {L : Array Bool} {a : Act} {w : World} (hi : l[i]? = some oi)
    (hr : Region.ready .any l.toArray L = [i]) (hw : Region.wanted oi (yielded l.toArray a.tmps) = true) (hrun : (execOp a.eval oi).run P w = .ok (.enter f args) w)
    (hc : Calls P f args w fun e w' => (∃ v, e = .returned v ∧ S w' ∧ wpAnyH P .any l.toArray Q S fuel (L.setIfInBounds i true) (a.put oi.dst v) w') ∨ ∃ c, e = .panicked c ∧ Q (.panic c) a w') : wpAnyH P .any l.toArray Q S (fuel + 1) L a w := by
  refine mv_step i hi hr hw fun K hK => ?_
  unfold Oper.wp
  rw [hrun]
  refine hc.mono fun e w' h => ?_
  rcases h with ⟨v, rfl, hs, h⟩ | ⟨c, rfl, h⟩
  · exact hK _ _ hs h
  · exact h
end
end Go.Proofs.Ythkpgjcnnfdibaa

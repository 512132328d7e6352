/- The walks of bytes.Equal and of column.take (layer 6). For at most 65536 bits. -/
import Derived.Test.YtiijnfakphhbeaaCol1
import Derived.Test.YtiijnfakphhbeaaColP2
namespace Go.Proofs.Ytiijnfakphhbeaa
open Go.RowKit Go.Maps
set_option linter.unusedVariables false
set_option linter.unusedSimpArgs false

set_option maxRecDepth 100000 in
theorem Equal_any (B : Nat) (A A' : Option Addr) (c c' : Nat) (l m : List UInt8) (w : World) (h : Rd w B A (cells l)) (h' : Rd w B A' (cells m)) :
    Calls Try.prog 53 #[.slice A l.length c, .slice A' m.length c'] w fun e w' => e = .returned (.bool (decide (l = m))) ∧ w = w' := by
  have h1 := conv_rd h c
  have h2 := conv_rd h' c'
  obtain ⟨q, hq⟩ : ∃ q, q = decide (l = m) := ⟨_, rfl⟩
  have hq2 : (l == m) = q := by rw [hq]; by_cases e : l = m <;> simp [e]
  rw [← hq]
  have HQ := Lib.hid hq2
  clear hq hq2
  go_enter Try.func53, Try.ntmps53
  go_wp2
  go_ret
  exact ⟨by rw [← HQ.out]; rfl, rfl⟩

/-- all but block g is as it was -/
def Keep (g : Nat) (w w' : World) : Prop := (∀ k, k ≠ g → k < w.heap.size → w'.heap[k]? = w.heap[k]?) ∧ w.heap.size ≤ w'.heap.size
theorem Keep.refl (g : Nat) (w : World) : Keep g w w := ⟨fun _ _ _ => rfl, Nat.le_refl _⟩
theorem Keep.cell {g : Nat} {w w' : World} {p : Addr} {v : Value} (h : Keep g w w') (hp : p.block ≠ g) (hc : w.cell? p = some v) : w'.cell? p = some v := by
  have hlt := cell_lt hc
  have h1 := h.1 p.block hp hlt
  unfold World.cell? at hc ⊢
  rw [h1]; exact hc
theorem Keep.set {g : Nat} {w w' : World} (h : Keep g w w') (j : Nat) (x : Value) : Keep g w (w'.setCell ⟨g, j, none⟩ x) :=
  ⟨fun k hk hlt => (heap_setCell_other w' ⟨g, j, none⟩ k x hk).trans (h.1 k hk hlt), by simpa using h.2⟩

abbrev bools (l : List Bool) : List Value := l.map Value.bool
/-- the first k of the bits of bytes, among n -/
def blTo (b : List UInt8) (n k : Nat) : List Bool := (List.range n).map fun i => decide (i < k) && bitAt b i
def blN (b : List UInt8) (n : Nat) : List Bool := (List.range n).map fun i => bitAt b i
theorem blTo_len (b : List UInt8) (n k : Nat) : (blTo b n k).length = n := by simp [blTo]
theorem blN_len (b : List UInt8) (n : Nat) : (blN b n).length = n := by simp [blN]
theorem blTo_n (b : List UInt8) (n : Nat) : blTo b n n = blN b n := by
  unfold blTo blN
  refine List.map_congr_left fun i hi => ?_
  rw [List.mem_range] at hi
  simp [hi]
theorem blTo_0 (b : List UInt8) (n : Nat) : blTo b n 0 = List.replicate n false := by
  apply List.ext_getElem?
  intro i
  rw [List.getElem?_replicate]
  by_cases hi : i < n
  · simp [blTo, hi]
  · simp [blTo, hi]
theorem blTo_set (b : List UInt8) (n k : Nat) (hk : k < n) : (blTo b n k).set k (bitAt b k) = blTo b n (k + 1) := by
  apply List.ext_getElem?
  intro i
  rw [List.getElem?_set]
  by_cases hi : i < n
  · by_cases hik : k = i
    · subst hik
      simp [blTo, hi]
    · rw [if_neg hik]
      simp only [blTo, List.getElem?_map, List.getElem?_range hi, Option.map_some]
      congr 2
      exact decide_eq_decide.2 (by omega)
  · rw [List.getElem?_eq_none (l := blTo b n (k + 1)) (by rw [blTo_len]; omega)]
    split
    · omega
    · rw [List.getElem?_eq_none (by rw [blTo_len]; omega)]
theorem blN_get {b : List UInt8} {n i : Nat} (hi : i < n) : (blN b n)[i]? = some (bitAt b i) := by simp [blN, hi]
theorem Try.infoBool : (Try.prog.info? 4).map (fun i => (i.zero, i.size, i.bytes)) = some (some (.bool false), 1, 1) := by kernel_rfl

set_option maxRecDepth 100000 in
theorem take1_any (q : Nat) (A : Option Addr) (c i : Nat) (l : List Bool) (B : Nat) (w : World) (hq : w.cell? ⟨q, 0, none⟩ = some (.slice A l.length c)) (hr : Rd w B A (bools l)) (hi : i < l.length) (hl : l.length ≤ 4294967296) (x : Bool) (hx : l[i]? = some x) :
    Calls Try.prog 54 #[.int .i64 (i : Int), .pointer (some ⟨q, 0, none⟩)] w fun e w' => e = .returned (.bool x) ∧ w = w' := by
  obtain ⟨bb, oo, rfl, hb, hc⟩ := hr.at (k := i) (by simpa using hi)
  have hck := hc i (.bool x) (by rw [List.getElem?_map, hx]; rfl)
  have hiI : (i : Int) < (l.length : Int) := by omega
  clear hc hx hr
  go_enter Try.func54, Try.ntmps54
  go_wp2
  go_ret
  exact ⟨rfl, rfl⟩

/-- What take leaves: the bits, what is left, the error. -/
def RetT (w : World) (B : Nat) (b : List UInt8) (n : Nat) (e : Ending) (w' : World) : Prop :=
  (tkE b n ≠ 0 ∧ e = .returned (.tuple #[.slice none 0 0, .slice none 0 0, .int .i64 (tkE b n : Int)]) ∧ Below w.heap.size w w') ∨
  (tkE b n = 0 ∧ ∃ A c A' c', e = .returned (.tuple #[.slice A n c, .slice A' (b.drop (size8 n)).length c', .int .i64 0]) ∧ w'.ownsRow w.heap.size 4 1 (.slice A n c) n (bools (blN b n)) ∧ Rd w' B A' (cells (b.drop (size8 n))) ∧ (b.drop (size8 n)).length ≤ c' ∧ Below w.heap.size w w')

set_option maxHeartbeats 4000000 in
set_option maxRecDepth 100000 in
theorem take_any (B : Nat) (A : Option Addr) (c : Nat) (b : List UInt8) (n : Nat) (w : World) (hr : Rd w B A (cells b)) (hc : b.length ≤ c) (hB : B ≤ w.heap.size) (hn : n ≤ 65536) (hb : b.length ≤ 4294967296) :
    Calls Try.prog 35 #[.slice A b.length c, .int .i64 (n : Int)] w (RetT w B b n) := by
  obtain ⟨m, hm⟩ : ∃ m, m = size8 n := ⟨_, rfl⟩
  have hmn : m ≤ n + 7 := by rw [hm]; unfold size8; omega
  have hmI : ((n : Int) + 7) / 8 = (m : Int) := by rw [hm]; unfold size8; omega
  have hm8 : n ≤ 8 * m := by rw [hm]; exact size8_le n
  have HM := Lib.hid hm
  by_cases hLm : b.length < m
  case pos =>
    have he : tkE b n = 20 := by unfold tkE; rw [if_pos (by rw [← hm]; exact hLm)]
    have HE := Lib.hid he
    have hLI : (b.length : Int) < (m : Int) := by omega
    clear he hm
    go_enter Try.func35, Try.ntmps35
    go_wp2_with fail
    go_ret3
    exact .inl ⟨by rw [HE.out]; decide, by rw [HE.out]; rfl, Below.refl _ _⟩
  have htk : tkE b n = if anyBit b n (8 * size8 n) then 21 else 0 := by unfold tkE; rw [if_neg (by rw [← hm]; exact hLm)]
  have HTK := Lib.hid htk
  have hbe := bits_eq (b := b) (n := n) (by rw [← hm]; omega)
  have HBE := Lib.hid hbe
  have hLI : (m : Int) ≤ (b.length : Int) := by omega
  have hmL : m ≤ b.length := by omega
  clear hm htk hbe hLm
  obtain ⟨i0, hi, hz0, hz1, hz2⟩ := info_parts Try.infoBool
  obtain ⟨w1, hmk, hown, hg⟩ := run_make_full (P := Try.prog) w w.heap.size 61 4 i0 (.bool false) 1 Try.underlying61 hi hz0 hz1 .i64 .i64 n (by rw [hz2]; omega) (by unfold maxLen; omega) (Nat.le_refl _)
  have hmk2 : (Instr.makeSlice 61 (.int .i64 (n : Int)) (.int .i64 (n : Int))).run Try.prog w = .ok (.slice (some ⟨w.heap.size, 0, none⟩) n n) w1 := hmk
  have hown1 : w1.ownsRow w.heap.size 4 1 (.slice (some ⟨w.heap.size, 0, none⟩) n n) n (bools (blTo b n 0)) := by
    have h := hown
    rw [show (Value.bool false).cells = #[.bool false] from rfl, toList_madeCells_one, Nat.mul_one] at h
    have e2 : bools (blTo b n 0) = List.replicate n (.bool false) := by rw [blTo_0]; simp [bools]
    rw [e2]; exact h
  have hb1 : Below w.heap.size w w1 := (Below.refl _ w).grown hg (Nat.le_refl _) (by simp)
  have hgl : w.heap.size < w1.heap.size := (hown1.lt w.heap.size rfl).2
  clear hmk hown hi hz0 hz1 hz2 hg
  go_enter Try.func35, Try.ntmps35
  go_wp2_with fail
  rw [hmI]
  rw [show decide (b.length < m) = false from decide_eq_false (by omega)]
  obtain ⟨w2, hw2⟩ : ∃ w2, w2 = w1.alloc (.cells #[.slice (some ⟨w.heap.size, 0, none⟩) n n] 61) := ⟨_, rfl⟩
  have hown2 : w2.ownsRow w.heap.size 4 1 (.slice (some ⟨w.heap.size, 0, none⟩) n n) n (bools (blTo b n 0)) := by rw [hw2]; exact hown1.alloc _
  have hb2 : Below w.heap.size w w2 := by rw [hw2]; exact hb1.alloc hb1.size _
  have hq2 : w2.cell? ⟨w1.heap.size, 0, none⟩ = some (.slice (some ⟨w.heap.size, 0, none⟩) n n) := by rw [hw2]; simp [go_sem]
  obtain ⟨q, hq⟩ : ∃ q, q = w1.heap.size := ⟨_, rfl⟩
  rw [← hw2]
  rw [← hq] at hq2 ⊢
  have hqg : q ≠ w.heap.size := by omega
  have hwq : w.heap.size < q := by omega
  have hz2 : w2.heap.size = q + 1 := by rw [hw2, hq]; simp
  clear hw2 hown1 hb1 hmk2 hgl hq
  go_loopw [21] (fun v21 wr => ∃ k : Nat, k ≤ n ∧ v21 = .int .i64 k ∧ wr.ownsRow w.heap.size 4 1 (.slice (some ⟨w.heap.size, 0, none⟩) n n) n (bools (blTo b n k)) ∧ Below w.heap.size w wr ∧ wr.cell? ⟨q, 0, none⟩ = some (.slice (some ⟨w.heap.size, 0, none⟩) n n)) (fun v21 _ => n - (intOf v21).toNat)
  case atStart => exact ⟨0, by omega, rfl, hown2, hb2, hq2⟩
  case round =>
    clear hown2 hb2 hq2
    obtain ⟨k, hk, rfl, hown, hbel, hcq⟩ := hrel
    by_cases hlt : k < n
    · have hib : k / 8 < b.length := by omega
      obtain ⟨bb, oo, rfl, hbb, _⟩ := rd_cell hr hib
      obtain ⟨X, hX, hcell0, hbit⟩ := bit_facts hr k hib
      have hcell := (hbel.cell (p := ⟨bb, oo + k / 8, none⟩) (by show bb < _; omega)).trans hcell0
      have hbne : bb ≠ w.heap.size := by omega
      have hbs := blTo_set b n k hlt
      obtain ⟨bi, hbi⟩ : ∃ x, x = bitAt b k := ⟨_, rfl⟩
      rw [← hbi] at hbit hbs
      have HBS := Lib.hid hbs
      obtain ⟨j, hj⟩ : ∃ j, j = k / 8 := ⟨_, rfl⟩
      rw [← hj] at hcell hib
      have hjI : (k : Int) / 8 = (j : Int) := by omega
      have hjLI : (j : Int) < (b.length : Int) := by omega
      have hwj : IntKind.i64.wrap (j : Int) = (j : Int) := by rw [IntKind.wrap_i64]; omega
      obtain ⟨r, hrr⟩ : ∃ r, r = k % 8 := ⟨_, rfl⟩
      have hr8 : r < 8 := by omega
      have htm : (k : Int).tmod 8 = (r : Int) := by rw [Int.tmod_eq_emod_of_nonneg (by omega)]; omega
      have hsh := fun w => shr8 X r hX hr8 w
      have hkI : (k : Int) < (n : Int) := by omega
      have hwk : IntKind.i64.wrap (k : Int) = (k : Int) := by rw [IntKind.wrap_i64]; omega
      have hy : X / 2 ^ r < 256 := Nat.lt_of_le_of_lt (Nat.div_le_self _ _) hX
      have han := and1 (X / 2 ^ r) hy
      have hval : (((X / 2 ^ r % 2 : Nat) : Int) == 1) = bi := by
        rw [← hbit, hrr]
        obtain ⟨y, hyy⟩ : ∃ y, y = X / 2 ^ (k % 8) := ⟨_, rfl⟩
        rw [show ((X : Int) / 2 ^ (k % 8)) = ((X / 2 ^ (k % 8) : Nat) : Int) by simp, ← hyy, Int.tmod_eq_emod_of_nonneg (by omega)]
        by_cases h : y % 2 = 1
        · have h2 : (y : Int) % 2 = 1 := by omega
          simp [h, h2]
        · have h2 : (y : Int) % 2 = 0 := by omega
          have h3 : y % 2 = 0 := by omega
          simp [h3, h2]
      have hco := hown.cellAt k (by omega)
      have hfo := hown.frozenAt k
      rw [List.getElem?_map, List.getElem?_eq_getElem (by rw [blTo_len]; exact hlt)] at hco
      simp only [Option.map_some] at hco
      clear hj hrr hbi hbs hcell0 hy
      go_wp2_with fail
      refine ah_start 14 (fun w' => Keep w.heap.size wr w') rfl (by kernel_rfl) (Keep.refl _ _) ?_ ; intro hS
      (refine mv_val 0 (v := ?_) rfl (by kernel_rfl) (by kernel_rfl) (by kernel_rfl) (fun _ _ _ h => h) (by rfl) hS ?_ ?_; rotate_left; (focus (intro w hSw; (try dsimp only at hSw); (have f1 := hSw.cell (p := ⟨q, 0, none⟩) hqg hcq; have f2 := hSw.cell (p := ⟨bb, oo + j, none⟩) hbne hcell; have f3 := hjI; have f4 := hjLI; have f5 := hib; have f6 := hwj; have f7 := htm; have f8 := hsh w; have f9 := han; have f10 := hval; have f11 := hlt; have f12 := hkI; have f13 := hwk); go_simp; first | done | with_reducible rfl)); simp only [Act.put, List.setIfInBounds_toArray, List.set_cons_zero, List.set_cons_succ])
      (refine mv_val 1 (v := ?_) rfl (by kernel_rfl) (by kernel_rfl) (by kernel_rfl) (fun _ _ _ h => h) (by rfl) hS ?_ ?_; rotate_left; (focus (intro w hSw; (try dsimp only at hSw); (have f1 := hSw.cell (p := ⟨q, 0, none⟩) hqg hcq; have f2 := hSw.cell (p := ⟨bb, oo + j, none⟩) hbne hcell; have f3 := hjI; have f4 := hjLI; have f5 := hib; have f6 := hwj; have f7 := htm; have f8 := hsh w; have f9 := han; have f10 := hval; have f11 := hlt; have f12 := hkI; have f13 := hwk); go_simp; first | done | with_reducible rfl)); simp only [Act.put, List.setIfInBounds_toArray, List.set_cons_zero, List.set_cons_succ])
      (refine mv_val 2 (v := ?_) rfl (by kernel_rfl) (by kernel_rfl) (by kernel_rfl) (fun _ _ _ h => h) (by rfl) hS ?_ ?_; rotate_left; (focus (intro w hSw; (try dsimp only at hSw); (have f1 := hSw.cell (p := ⟨q, 0, none⟩) hqg hcq; have f2 := hSw.cell (p := ⟨bb, oo + j, none⟩) hbne hcell; have f3 := hjI; have f4 := hjLI; have f5 := hib; have f6 := hwj; have f7 := htm; have f8 := hsh w; have f9 := han; have f10 := hval; have f11 := hlt; have f12 := hkI; have f13 := hwk); go_simp; first | done | with_reducible rfl)); simp only [Act.put, List.setIfInBounds_toArray, List.set_cons_zero, List.set_cons_succ])
      (refine mv_val 3 (v := ?_) rfl (by kernel_rfl) (by kernel_rfl) (by kernel_rfl) (fun _ _ _ h => h) (by rfl) hS ?_ ?_; rotate_left; (focus (intro w hSw; (try dsimp only at hSw); (have f1 := hSw.cell (p := ⟨q, 0, none⟩) hqg hcq; have f2 := hSw.cell (p := ⟨bb, oo + j, none⟩) hbne hcell; have f3 := hjI; have f4 := hjLI; have f5 := hib; have f6 := hwj; have f7 := htm; have f8 := hsh w; have f9 := han; have f10 := hval; have f11 := hlt; have f12 := hkI; have f13 := hwk); go_simp; first | done | with_reducible rfl)); simp only [Act.put, List.setIfInBounds_toArray, List.set_cons_zero, List.set_cons_succ])
      (refine mv_val 4 (v := ?_) rfl (by kernel_rfl) (by kernel_rfl) (by kernel_rfl) (fun _ _ _ h => h) (by rfl) hS ?_ ?_; rotate_left; (focus (intro w hSw; (try dsimp only at hSw); (have f1 := hSw.cell (p := ⟨q, 0, none⟩) hqg hcq; have f2 := hSw.cell (p := ⟨bb, oo + j, none⟩) hbne hcell; have f3 := hjI; have f4 := hjLI; have f5 := hib; have f6 := hwj; have f7 := htm; have f8 := hsh w; have f9 := han; have f10 := hval; have f11 := hlt; have f12 := hkI; have f13 := hwk); go_simp; first | done | with_reducible rfl)); simp only [Act.put, List.setIfInBounds_toArray, List.set_cons_zero, List.set_cons_succ])
      (refine mv_val 5 (v := ?_) rfl (by kernel_rfl) (by kernel_rfl) (by kernel_rfl) (fun _ _ _ h => h) (by rfl) hS ?_ ?_; rotate_left; (focus (intro w hSw; (try dsimp only at hSw); (have f1 := hSw.cell (p := ⟨q, 0, none⟩) hqg hcq; have f2 := hSw.cell (p := ⟨bb, oo + j, none⟩) hbne hcell; have f3 := hjI; have f4 := hjLI; have f5 := hib; have f6 := hwj; have f7 := htm; have f8 := hsh w; have f9 := han; have f10 := hval; have f11 := hlt; have f12 := hkI; have f13 := hwk); go_simp; first | done | with_reducible rfl)); simp only [Act.put, List.setIfInBounds_toArray, List.set_cons_zero, List.set_cons_succ])
      (refine mv_val 6 (v := ?_) rfl (by kernel_rfl) (by kernel_rfl) (by kernel_rfl) (fun _ _ _ h => h) (by rfl) hS ?_ ?_; rotate_left; (focus (intro w hSw; (try dsimp only at hSw); (have f1 := hSw.cell (p := ⟨q, 0, none⟩) hqg hcq; have f2 := hSw.cell (p := ⟨bb, oo + j, none⟩) hbne hcell; have f3 := hjI; have f4 := hjLI; have f5 := hib; have f6 := hwj; have f7 := htm; have f8 := hsh w; have f9 := han; have f10 := hval; have f11 := hlt; have f12 := hkI; have f13 := hwk); go_simp; first | done | with_reducible rfl)); simp only [Act.put, List.setIfInBounds_toArray, List.set_cons_zero, List.set_cons_succ])
      (refine mv_val 7 (v := ?_) rfl (by kernel_rfl) (by kernel_rfl) (by kernel_rfl) (fun _ _ _ h => h) (by rfl) hS ?_ ?_; rotate_left; (focus (intro w hSw; (try dsimp only at hSw); (have f1 := hSw.cell (p := ⟨q, 0, none⟩) hqg hcq; have f2 := hSw.cell (p := ⟨bb, oo + j, none⟩) hbne hcell; have f3 := hjI; have f4 := hjLI; have f5 := hib; have f6 := hwj; have f7 := htm; have f8 := hsh w; have f9 := han; have f10 := hval; have f11 := hlt; have f12 := hkI; have f13 := hwk); go_simp; first | done | with_reducible rfl)); simp only [Act.put, List.setIfInBounds_toArray, List.set_cons_zero, List.set_cons_succ])
      (refine mv_val 8 (v := ?_) rfl (by kernel_rfl) (by kernel_rfl) (by kernel_rfl) (fun _ _ _ h => h) (by rfl) hS ?_ ?_; rotate_left; (focus (intro w hSw; (try dsimp only at hSw); (have f1 := hSw.cell (p := ⟨q, 0, none⟩) hqg hcq; have f2 := hSw.cell (p := ⟨bb, oo + j, none⟩) hbne hcell; have f3 := hjI; have f4 := hjLI; have f5 := hib; have f6 := hwj; have f7 := htm; have f8 := hsh w; have f9 := han; have f10 := hval; have f11 := hlt; have f12 := hkI; have f13 := hwk); go_simp; first | done | with_reducible rfl)); simp only [Act.put, List.setIfInBounds_toArray, List.set_cons_zero, List.set_cons_succ])
      (refine mv_val 9 (v := ?_) rfl (by kernel_rfl) (by kernel_rfl) (by kernel_rfl) (fun _ _ _ h => h) (by rfl) hS ?_ ?_; rotate_left; (focus (intro w hSw; (try dsimp only at hSw); (have f1 := hSw.cell (p := ⟨q, 0, none⟩) hqg hcq; have f2 := hSw.cell (p := ⟨bb, oo + j, none⟩) hbne hcell; have f3 := hjI; have f4 := hjLI; have f5 := hib; have f6 := hwj; have f7 := htm; have f8 := hsh w; have f9 := han; have f10 := hval; have f11 := hlt; have f12 := hkI; have f13 := hwk); go_simp; first | done | with_reducible rfl)); simp only [Act.put, List.setIfInBounds_toArray, List.set_cons_zero, List.set_cons_succ])
      (refine mv_val 10 (v := ?_) rfl (by kernel_rfl) (by kernel_rfl) (by kernel_rfl) (fun _ _ _ h => h) (by rfl) hS ?_ ?_; rotate_left; (focus (intro w hSw; (try dsimp only at hSw); (have f1 := hSw.cell (p := ⟨q, 0, none⟩) hqg hcq; have f2 := hSw.cell (p := ⟨bb, oo + j, none⟩) hbne hcell; have f3 := hjI; have f4 := hjLI; have f5 := hib; have f6 := hwj; have f7 := htm; have f8 := hsh w; have f9 := han; have f10 := hval; have f11 := hlt; have f12 := hkI; have f13 := hwk); go_simp; first | done | with_reducible rfl)); simp only [Act.put, List.setIfInBounds_toArray, List.set_cons_zero, List.set_cons_succ])
      (refine mv_val 11 (v := ?_) rfl (by kernel_rfl) (by kernel_rfl) (by kernel_rfl) (fun _ _ _ h => h) (by rfl) hS ?_ ?_; rotate_left; (focus (intro w hSw; (try dsimp only at hSw); (have f1 := hSw.cell (p := ⟨q, 0, none⟩) hqg hcq; have f2 := hSw.cell (p := ⟨bb, oo + j, none⟩) hbne hcell; have f3 := hjI; have f4 := hjLI; have f5 := hib; have f6 := hwj; have f7 := htm; have f8 := hsh w; have f9 := han; have f10 := hval; have f11 := hlt; have f12 := hkI; have f13 := hwk); go_simp; first | done | with_reducible rfl)); simp only [Act.put, List.setIfInBounds_toArray, List.set_cons_zero, List.set_cons_succ])
      (refine mv_val 12 (v := ?_) rfl (by kernel_rfl) (by kernel_rfl) (by kernel_rfl) (fun _ _ _ h => h) (by rfl) hS ?_ ?_; rotate_left; (focus (intro w hSw; (try dsimp only at hSw); (have f1 := hSw.cell (p := ⟨q, 0, none⟩) hqg hcq; have f2 := hSw.cell (p := ⟨bb, oo + j, none⟩) hbne hcell; have f3 := hjI; have f4 := hjLI; have f5 := hib; have f6 := hwj; have f7 := htm; have f8 := hsh w; have f9 := han; have f10 := hval; have f11 := hlt; have f12 := hkI; have f13 := hwk); go_simp; first | done | with_reducible rfl)); simp only [Act.put, List.setIfInBounds_toArray, List.set_cons_zero, List.set_cons_succ])
      refine mv_step 13 rfl (by kernel_rfl) (by rfl) (fun K hK => ?_)
      go_simp
      refine hK _ _ ?_ ?_ <;> clear hK K
      · exact (Keep.refl _ _).set _ _
      try simp only [Act.put, List.setIfInBounds_toArray, List.set_cons_zero, List.set_cons_succ]
      refine wpAnyH_done (by kernel_rfl) ?_ _
      go_wp2_with fail
      go_roundw
      case rel =>
        refine ⟨k + 1, by omega, by go_num, ?_, (hbel.setCell (p := ⟨w.heap.size, k, none⟩) (Nat.le_refl _) _).drew, ?_⟩
        · have h1 := (hown.stored k (.bool (bits .and .u8 ((X : Int) / 2 ^ r) 1 == 1))).1
          have e : (bits .and .u8 ((X : Int) / 2 ^ r) 1 == 1) = bi := by
            rw [show ((X : Int) / 2 ^ r) = ((X / 2 ^ r : Nat) : Int) by simp, han, hval]
          rw [e, show (bools (blTo b n k)).set k (.bool bi) = bools (blTo b n (k + 1)) by rw [← HBS.out]; unfold bools; rw [List.map_set]] at h1
          rw [e]; exact h1
        · exact ((Keep.refl _ wr).set _ _).cell (p := ⟨q, 0, none⟩) hqg hcq
      case measure => simp [intOf]; omega
    · have hkn : k = n := by omega
      rw [hkn, blTo_n] at hown
      have hge : (n : Int) ≤ (k : Int) := by omega
      have hbl := blN_len b n
      have hL := fun (w' : World) (h : Below wr.heap.size wr w') => lay_any n hn 54 (.pointer (some ⟨q, 0, none⟩)) (bitAt b) (fun _ _ => by kernel_rfl) w' (fun w'' h2 i hi => by
        have hw : Below wr.heap.size wr w'' := h.trans (h2.mono h.size)
        have hq3 : w''.cell? ⟨q, 0, none⟩ = some (.slice (some ⟨w.heap.size, 0, none⟩) (blN b n).length n) := by rw [hbl]; exact cell_be hcq hw (cell_lt hcq)
        exact take1_any q _ n i (blN b n) w''.heap.size w'' hq3 (rd_own (own_bel hown hw)) (by rw [hbl]; exact hi) (by rw [hbl]; omega) (bitAt b i) (blN_get hi))
      have hs1 := fun w' => upto_any (A := A) (n := b.length) (c := c) m hmL hc w' (m : Int) rfl
      obtain ⟨A6, c6, hsl6, hrd6, hc6⟩ := from_any (l := b) c m hmL hc (hr.below (hbel.mono hB))
      have hsl7 := fun w' => hsl6 w' (m : Int) rfl
      have hrt : Rd wr B A (cells (b.take m)) := by
        have := (hr.below (hbel.mono hB)).take m
        unfold cells at *; rw [List.map_take]; exact this
      have hml : (b.take m).length = m := by rw [List.length_take]; omega
      have HEQ := Lib.hid (fun (w' : World) (h : Below wr.heap.size wr w') (A7 : Option Addr) (c7 : Nat) h1 => Equal_any w'.heap.size A7 A c7 c (bitsN n (bitAt b)) (b.take m) w' h1 ((hrt.below (h.mono (by have := hbel.size; omega))).more (by have := hbel.size; have := h.size; omega)))
      rw [hml] at HEQ
      have HLAY := Lib.hid hL
      have hcond : bitsN n (bitAt b) = b.take m ↔ anyBit b n (8 * size8 n) = false := by rw [HM.out]; exact HBE.out
      obtain ⟨rest, hrest⟩ : ∃ r, r = b.drop m := ⟨_, rfl⟩
      rw [← hrest] at hsl7 hrd6 hc6
      have HREST := Lib.hid hrest
      have HCOND := Lib.hid hcond
      clear hkn hlt hL hsl6 hrt hcond hrest
      go_wp2_with fail
      refine ah_start 8 (fun w' => Below wr.heap.size wr w') rfl (by kernel_rfl) (Below.refl _ _).drew ?_ ; intro hS
      (refine mv_val 0 (v := ?_) rfl (by kernel_rfl) (by kernel_rfl) (by kernel_rfl) (fun _ _ _ h => h) (by rfl) hS ?_ ?_; rotate_left; (focus (intro w hSw; (try dsimp only at hSw); (have f1 := hs1 w); go_simp; first | done | with_reducible rfl)); simp only [Act.put, List.setIfInBounds_toArray, List.set_cons_zero, List.set_cons_succ])
      (refine mv_val 1 (v := ?_) rfl (by kernel_rfl) (by kernel_rfl) (by kernel_rfl) (fun _ _ _ h => h) (by rfl) hS ?_ ?_; rotate_left; (focus (intro w hSw; (try dsimp only at hSw); (have f1 := hs1 w); go_simp; first | done | with_reducible rfl)); simp only [Act.put, List.setIfInBounds_toArray, List.set_cons_zero, List.set_cons_succ])
      (refine mv_val 3 (v := ?_) rfl (by kernel_rfl) (by kernel_rfl) (by kernel_rfl) (fun _ _ _ h => h) (by rfl) hS ?_ ?_; rotate_left; (focus (intro w hSw; (try dsimp only at hSw); (have f1 := hs1 w); go_simp; first | done | with_reducible rfl)); simp only [Act.put, List.setIfInBounds_toArray, List.set_cons_zero, List.set_cons_succ])
      (refine mv_val 4 (v := ?_) rfl (by kernel_rfl) (by kernel_rfl) (by kernel_rfl) (fun _ _ _ h => h) (by rfl) hS ?_ ?_; rotate_left; (focus (intro w hSw; (try dsimp only at hSw); (have f1 := hs1 w); go_simp; first | done | with_reducible rfl)); simp only [Act.put, List.setIfInBounds_toArray, List.set_cons_zero, List.set_cons_succ])
      (refine mv_val 5 (v := ?_) rfl (by kernel_rfl) (by kernel_rfl) (by kernel_rfl) (fun _ _ _ h => h) (by rfl) hS ?_ ?_; rotate_left; (focus (intro w hSw; (try dsimp only at hSw); (have f1 := hs1 w); go_simp; first | done | with_reducible rfl)); simp only [Act.put, List.setIfInBounds_toArray, List.set_cons_zero, List.set_cons_succ])
      (refine mv_call 2 (f := ?_) (args := ?_) rfl (by kernel_rfl) (by rfl) ?_ ?_; rotate_left 2; (focus (go_simp; first | done | with_reducible rfl | (refine ⟨?_, ?_⟩ <;> with_reducible rfl))))
      refine (HLAY.out _ hS).mono ?_; rintro e w4 ⟨A4, c4, rfl, hown4, hb4⟩
      have hS4 : Below wr.heap.size wr w4 := hS.trans (hb4.mono hS.size)
      refine ⟨_, rfl, hS4, ?_⟩
      replace hS := hS4
      clear hS4
      simp only [Act.put, List.setIfInBounds_toArray, List.set_cons_zero, List.set_cons_succ]
      (refine mv_call 6 (f := ?_) (args := ?_) rfl (by kernel_rfl) (by rfl) ?_ ?_; rotate_left 2; (focus (go_simp; first | done | with_reducible rfl | (refine ⟨?_, ?_⟩ <;> with_reducible rfl))))
      refine (HEQ.out _ hS A4 c4 (rd_own hown4)).mono ?_; rintro e w5 ⟨rfl, rfl⟩
      refine ⟨_, rfl, hS, ?_⟩
      simp only [Act.put, List.setIfInBounds_toArray, List.set_cons_zero, List.set_cons_succ]
      (refine mv_val 7 (v := ?_) rfl (by kernel_rfl) (by kernel_rfl) (by kernel_rfl) (fun _ _ _ h => h) (by rfl) hS ?_ ?_; rotate_left; (focus (intro w hSw; (try dsimp only at hSw); (have f1 := hs1 w); go_simp; first | done | with_reducible rfl)); simp only [Act.put, List.setIfInBounds_toArray, List.set_cons_zero, List.set_cons_succ])
      refine wpAnyH_done (by kernel_rfl) ?_ _
      have hb05 : Below w.heap.size w w4 := hbel.trans (hS.mono hbel.size)
      have hcq4 := cell_be hcq hS (cell_lt hcq)
      have hown5 := own_bel hown hS
      have hrd4 := hrd6.below (hS.mono (show B ≤ wr.heap.size by have := hbel.size; omega))
      clear hown4 hb4
      by_cases hab : anyBit b n (8 * size8 n) = true
      · have he : tkE b n = 21 := by rw [HTK.out, if_pos hab]
        have hd : decide (bitsN n (bitAt b) = b.take m) = false := by
          rw [decide_eq_false_iff_not, HCOND.out, hab]; simp
        rw [hd]
        have HE := Lib.hid he
        clear hd he hab
        go_wp2_with fail
        go_ret3
        exact .inl ⟨by rw [HE.out]; decide, by rw [HE.out]; rfl, hb05⟩
      · have hab0 : anyBit b n (8 * size8 n) = false := by simpa using hab
        have he : tkE b n = 0 := by rw [HTK.out, if_neg hab]
        have hd : decide (bitsN n (bitAt b) = b.take m) = true := by
          rw [decide_eq_true_iff, HCOND.out, hab0]
        rw [hd]
        have HE := Lib.hid he
        clear hd he hab hab0
        go_wp2_with fail
        refine ah_start 7 (fun w' => w'.cell? ⟨q, 0, none⟩ = some (.slice (some ⟨w.heap.size, 0, none⟩) n n)) rfl (by kernel_rfl) hcq4 ?_ ; clear hS; intro hS
        (refine mv_val 0 (v := ?_) rfl (by kernel_rfl) (by kernel_rfl) (by kernel_rfl) (fun _ _ _ h => h) (by rfl) hS ?_ ?_; rotate_left; (focus (intro w hSw; (try dsimp only at hSw); (have f1 := hSw; have f2 := hsl7 w); go_simp; first | done | with_reducible rfl)); simp only [Act.put, List.setIfInBounds_toArray, List.set_cons_zero, List.set_cons_succ])
        (refine mv_val 1 (v := ?_) rfl (by kernel_rfl) (by kernel_rfl) (by kernel_rfl) (fun _ _ _ h => h) (by rfl) hS ?_ ?_; rotate_left; (focus (intro w hSw; (try dsimp only at hSw); (have f1 := hSw; have f2 := hsl7 w); go_simp; first | done | with_reducible rfl)); simp only [Act.put, List.setIfInBounds_toArray, List.set_cons_zero, List.set_cons_succ])
        (refine mv_val 2 (v := ?_) rfl (by kernel_rfl) (by kernel_rfl) (by kernel_rfl) (fun _ _ _ h => h) (by rfl) hS ?_ ?_; rotate_left; (focus (intro w hSw; (try dsimp only at hSw); (have f1 := hSw; have f2 := hsl7 w); go_simp; first | done | with_reducible rfl)); simp only [Act.put, List.setIfInBounds_toArray, List.set_cons_zero, List.set_cons_succ])
        (refine mv_val 3 (v := ?_) rfl (by kernel_rfl) (by kernel_rfl) (by kernel_rfl) (fun _ _ _ h => h) (by rfl) hS ?_ ?_; rotate_left; (focus (intro w hSw; (try dsimp only at hSw); (have f1 := hSw; have f2 := hsl7 w); go_simp; first | done | with_reducible rfl)); simp only [Act.put, List.setIfInBounds_toArray, List.set_cons_zero, List.set_cons_succ])
        (refine mv_val 4 (v := ?_) rfl (by kernel_rfl) (by kernel_rfl) (by kernel_rfl) (fun _ _ _ h => h) (by rfl) hS ?_ ?_; rotate_left; (focus (intro w hSw; (try dsimp only at hSw); (have f1 := hSw; have f2 := hsl7 w); go_simp; first | done | with_reducible rfl)); simp only [Act.put, List.setIfInBounds_toArray, List.set_cons_zero, List.set_cons_succ])
        (refine mv_val 5 (v := ?_) rfl (by kernel_rfl) (by kernel_rfl) (by kernel_rfl) (fun _ _ _ h => h) (by rfl) hS ?_ ?_; rotate_left; (focus (intro w hSw; (try dsimp only at hSw); (have f1 := hSw; have f2 := hsl7 w); go_simp; first | done | with_reducible rfl)); simp only [Act.put, List.setIfInBounds_toArray, List.set_cons_zero, List.set_cons_succ])
        (refine mv_val 6 (v := ?_) rfl (by kernel_rfl) (by kernel_rfl) (by kernel_rfl) (fun _ _ _ h => h) (by rfl) hS ?_ ?_; rotate_left; (focus (intro w hSw; (try dsimp only at hSw); (have f1 := hSw; have f2 := hsl7 w); go_simp; first | done | with_reducible rfl)); simp only [Act.put, List.setIfInBounds_toArray, List.set_cons_zero, List.set_cons_succ])
        refine wpAnyH_done (by kernel_rfl) ?_ _
        go_wp2_with fail
        go_ret3
        refine .inr ⟨HE.out, _, _, A6, c6, ?_, hown5, ?_, ?_, hb05.drew⟩
        · rw [← HM.out, ← HREST.out]; rfl
        · rw [← HM.out, ← HREST.out]
          exact hrd4
        · rw [← HM.out, ← HREST.out]; exact hc6
end Go.Proofs.Ytiijnfakphhbeaa

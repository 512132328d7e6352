/- The walks of the readers of key.Parse (layer 3): null, truth, number. No condition. -/
import Derived.Test.YtdbhbfpfcdklmaaKey2
import Derived.Test.YtdbhbfpfcdklmaaSl
import Derived.Test.YtdbhbfpfcdklmaaMove2
namespace Go.Proofs.Ytdbhbfpfcdklmaa
open Go.RowKit
set_option linter.unusedVariables false
set_option linter.unusedSimpArgs false

/-- What a reader leaves: a value, what is left of the bytes, an error. -/
def RetV (w : World) (B : Nat) (x : V × List UInt8 × Nat) (e : Ending) (w' : World) : Prop :=
  ∃ A c, e = .returned (.tuple #[va x.1, .slice A x.2.1.length c, .int .i64 (x.2.2 : Int)]) ∧ Rd w' B A (cells x.2.1) ∧ x.2.1.length ≤ c ∧ Below w.heap.size w w'
abbrev nullA : Value := .agg #[.int .u8 0, .int .i64 0, .string ⟨#[]⟩]
theorem retV_err {w w' : World} {B : Nat} {x : V × List UInt8 × Nat} {n : Nat} (h : x = (null, [], n)) (hb : Below w.heap.size w w') : RetV w B x (.returned (.tuple #[nullA, .slice none 0 0, .int .i64 (n : Int)])) w' := by
  subst h
  exact ⟨none, 0, rfl, .inl rfl, Nat.zero_le _, hb⟩
theorem retV_ok {w w' : World} {B : Nat} {x : V × List UInt8 × Nat} {v : V} {r : List UInt8} {A : Option Addr} {c : Nat} {vv : Value} (hvv : vv = va v) (h : x = (v, r, 0)) (hr : Rd w B A (cells r)) (hc : r.length ≤ c) (hB : B ≤ w.heap.size) (hb : Below w.heap.size w w') :
    RetV w B x (.returned (.tuple #[vv, .slice A r.length c, .int .i64 0])) w' := by
  subst h hvv
  exact ⟨A, c, rfl, hr.below (hb.mono hB), hc, hb⟩
/-- 'b[u:]' of bytes that are read. -/
theorem from_any {w : World} {B : Nat} {A : Option Addr} {l : List UInt8} (c u : Nat) (hu : u ≤ l.length) (hc : l.length ≤ c) (hr : Rd w B A (cells l)) :
    ∃ A' c', (∀ w' (z : Int), z = u → (Instr.sliceAt 22 (.slice A l.length c) (some (.int .i64 z)) none none).run Try.prog w' = .ok (.slice A' (l.drop u).length c') w') ∧ Rd w B A' (cells (l.drop u)) ∧ (l.drop u).length ≤ c' := by
  refine ⟨_, _, fun w' z hz => by rw [hz, run_from A l.length c u hu w', List.length_drop], ?_, by rw [List.length_drop]; omega⟩
  have h1 := hr.cut u (c = u) (fun e => by simp; omega)
  unfold cells at *
  rw [List.map_drop]; exact h1

set_option maxRecDepth 100000 in
theorem readNull_any (B : Nat) (A : Option Addr) (c : Nat) (b : List UInt8) (w : World) (hr : Rd w B A (cells b)) (hc : b.length ≤ c) (hB : B ≤ w.heap.size) :
    Calls Try.prog 26 #[.slice A b.length c] w (RetV w B (rone 1 b)) := by
  have he : rone 1 b = (null, b, 0) := rfl
  have HE := Lib.hid he
  clear he
  go_enter Try.func26, Try.ntmps26
  go_wp2
  refine bodyPost_ret (v := .tuple #[nullA, .slice A b.length c, .int .i64 0]) (by simp [results, Try.results26, go_sem]) rfl (retV_ok rfl HE.out hr hc hB (by go_grown))

set_option maxRecDepth 100000 in
theorem readTruth_any (B : Nat) (A : Option Addr) (c : Nat) (b : List UInt8) (w : World) (hr : Rd w B A (cells b)) (hc : b.length ≤ c) (hB : B ≤ w.heap.size) :
    Calls Try.prog 27 #[.slice A b.length c] w (RetV w B (rone 2 b)) := by
  match b, hr, hc with
  | [], _, _ =>
    have he : rone 2 [] = (null, [], 20) := rfl
    have HE := Lib.hid he
    clear he
    go_enter Try.func27, Try.ntmps27
    go_wp2
    refine bodyPost_ret (v := .tuple #[nullA, .slice none 0 0, .int .i64 20]) (by simp [results, Try.results27, go_sem]) rfl (retV_err HE.out (by go_grown))
  | d :: r, hr, hc =>
    obtain ⟨bb, oo, hA, hbb, hcc⟩ := hr.at (k := 0) (by simp)
    have hcell := hcc 0 (b8 d) rfl
    rw [Nat.add_zero] at hcell
    have hcal : ∀ o, (w.alloc o).cell? ⟨bb, oo, none⟩ = some (.int .u8 (d.toNat : Int)) := fun o => cell_al hcell (by show bb < _; omega) _
    obtain ⟨A', c', hsl, hrd', hc'⟩ := from_any c 1 (by simp) hc hr
    rw [List.drop_one, List.tail_cons] at hsl hrd' hc'
    have hn : ((d :: r).length : Int) = (r.length : Int) + 1 := by simp
    obtain ⟨n, hnn⟩ : ∃ n, n = (d :: r).length := ⟨_, rfl⟩
    rw [← hnn] at hsl hn ⊢
    have hn0 : ((n : Int) == 0) = false := by simp; omega
    have hn1 : (0 : Int) < (n : Int) := by omega
    have hn2 : 0 < n := by omega
    have HR := Lib.hid hr
    subst hA
    have hd : d.toNat < 256 := d.toNat_lt
    clear hnn hn hcc hr
    by_cases h1 : 1 < d.toNat
    · have he : rone 2 (d :: r) = (null, [], 21) := by unfold rone; simp [h1]
      have HE := Lib.hid he
      have h1I : (1 : Int) < (d.toNat : Int) := by omega
      clear he
      go_enter Try.func27, Try.ntmps27
      go_wp2
      refine bodyPost_ret (v := .tuple #[nullA, .slice none 0 0, .int .i64 21]) (by simp [results, Try.results27, go_sem]) rfl (retV_err HE.out (by go_grown))
    · have he : rone 2 (d :: r) = (⟨1, d.toNat, []⟩, r, 0) := by unfold rone; simp [h1]
      have HE := Lib.hid he
      have h1I : (d.toNat : Int) ≤ 1 := by omega
      clear he
      go_enter Try.func27, Try.ntmps27
      go_wp2
      refine ah_start 10 (fun w' => w'.cell? ⟨bb, oo, none⟩ = some (.int .u8 (d.toNat : Int))) rfl (by kernel_rfl) (hcal _) ?_ ; intro hS
      (refine mv_val 0 (v := ?_) rfl (by kernel_rfl) (by kernel_rfl) (by kernel_rfl) (fun _ _ _ h => h) (by rfl) hS ?_ ?_; rotate_left; (focus (intro w hSw; (try dsimp only at hSw); (have f1 := hSw; have f2 := hsl w 1 rfl; have f3 := hn2); go_simp; first | done | with_reducible rfl)); simp only [Act.put, List.setIfInBounds_toArray, List.set_cons_zero, List.set_cons_succ])
      (refine mv_val 1 (v := ?_) rfl (by kernel_rfl) (by kernel_rfl) (by kernel_rfl) (fun _ _ _ h => h) (by rfl) hS ?_ ?_; rotate_left; (focus (intro w hSw; (try dsimp only at hSw); (have f1 := hSw; have f2 := hsl w 1 rfl; have f3 := hn2); go_simp; first | done | with_reducible rfl)); simp only [Act.put, List.setIfInBounds_toArray, List.set_cons_zero, List.set_cons_succ])
      (refine mv_val 2 (v := ?_) rfl (by kernel_rfl) (by kernel_rfl) (by kernel_rfl) (fun _ _ _ h => h) (by rfl) hS ?_ ?_; rotate_left; (focus (intro w hSw; (try dsimp only at hSw); (have f1 := hSw; have f2 := hsl w 1 rfl; have f3 := hn2); go_simp; first | done | with_reducible rfl)); simp only [Act.put, List.setIfInBounds_toArray, List.set_cons_zero, List.set_cons_succ])
      (refine mv_val 3 (v := ?_) rfl (by kernel_rfl) (by kernel_rfl) (by kernel_rfl) (fun _ _ _ h => h) (by rfl) hS ?_ ?_; rotate_left; (focus (intro w hSw; (try dsimp only at hSw); (have f1 := hSw; have f2 := hsl w 1 rfl; have f3 := hn2); go_simp; first | done | with_reducible rfl)); simp only [Act.put, List.setIfInBounds_toArray, List.set_cons_zero, List.set_cons_succ])
      (refine mv_val 4 (v := ?_) rfl (by kernel_rfl) (by kernel_rfl) (by kernel_rfl) (fun _ _ _ h => h) (by rfl) hS ?_ ?_; rotate_left; (focus (intro w hSw; (try dsimp only at hSw); (have f1 := hSw; have f2 := hsl w 1 rfl; have f3 := hn2); go_simp; first | done | with_reducible rfl)); simp only [Act.put, List.setIfInBounds_toArray, List.set_cons_zero, List.set_cons_succ])
      (refine mv_val 5 (v := ?_) rfl (by kernel_rfl) (by kernel_rfl) (by kernel_rfl) (fun _ _ _ h => h) (by rfl) hS ?_ ?_; rotate_left; (focus (intro w hSw; (try dsimp only at hSw); (have f1 := hSw; have f2 := hsl w 1 rfl; have f3 := hn2); go_simp; first | done | with_reducible rfl)); simp only [Act.put, List.setIfInBounds_toArray, List.set_cons_zero, List.set_cons_succ])
      (refine mv_val 6 (v := ?_) rfl (by kernel_rfl) (by kernel_rfl) (by kernel_rfl) (fun _ _ _ h => h) (by rfl) hS ?_ ?_; rotate_left; (focus (intro w hSw; (try dsimp only at hSw); (have f1 := hSw; have f2 := hsl w 1 rfl; have f3 := hn2); go_simp; first | done | with_reducible rfl)); simp only [Act.put, List.setIfInBounds_toArray, List.set_cons_zero, List.set_cons_succ])
      refine mv_step 7 rfl (by kernel_rfl) (by rfl) (fun K hK => ?_)
      go_simp
      refine hK _ _ ?_ ?_ <;> clear hK K
      · exact hcal _
      replace hS : ((w.alloc (.cells #[.int .u8 1, .int .i64 (IntKind.i64.wrap (d.toNat : Int)), .string ⟨#[]⟩] 39)).drew).cell? ⟨bb, oo, none⟩ = some (.int .u8 (d.toNat : Int)) := hcal _
      try simp only [Act.put, List.setIfInBounds_toArray, List.set_cons_zero, List.set_cons_succ]
      (refine mv_val 8 (v := ?_) rfl (by kernel_rfl) (by kernel_rfl) (by kernel_rfl) (fun _ _ _ h => h) (by rfl) hS ?_ ?_; rotate_left; (focus (intro w hSw; (try dsimp only at hSw); (have f1 := hSw; have f2 := hsl w 1 rfl; have f3 := hn2); go_simp; first | done | with_reducible rfl)); simp only [Act.put, List.setIfInBounds_toArray, List.set_cons_zero, List.set_cons_succ])
      (refine mv_val 9 (v := ?_) rfl (by kernel_rfl) (by kernel_rfl) (by kernel_rfl) (fun _ _ _ h => h) (by rfl) hS ?_ ?_; rotate_left; (focus (intro w hSw; (try dsimp only at hSw); (have f1 := hSw; have f2 := hsl w 1 rfl; have f3 := hn2); go_simp; first | done | with_reducible rfl)); simp only [Act.put, List.setIfInBounds_toArray, List.set_cons_zero, List.set_cons_succ])
      refine wpAnyH_done (by kernel_rfl) ?_ _
      have hw : IntKind.i64.wrap (d.toNat : Int) = (d.toNat : Int) := by rw [IntKind.wrap_i64]; omega
      rw [hw]
      clear hw
      go_wp2
      refine bodyPost_ret (v := .tuple #[va ⟨1, d.toNat, []⟩, .slice A' r.length c', .int .i64 0]) (by simp [results, Try.results27, go_sem]) rfl (retV_ok rfl HE.out hrd' hc' hB (by go_grown))

theorem num8_snoc : ∀ (u : Nat) (l : List UInt8) (c : UInt8), num8 u (l ++ [c]) = num8 u l * 256 + c.toNat
  | u, [], c => rfl
  | u, d :: l, c => num8_snoc _ l c
theorem num8_lt : ∀ (l : List UInt8) (u k : Nat), u < 256 ^ k → num8 u l < 256 ^ (k + l.length)
  | [], u, k, h => h
  | c :: l, u, k, h => by
    have := num8_lt l (u * 256 + c.toNat) (k + 1) (by have := c.toNat_lt; rw [Nat.pow_succ]; omega)
    simp only [num8, List.length_cons]
    rw [show k + (l.length + 1) = k + 1 + l.length by omega]; exact this
theorem shl_or (u : Nat) (hu : u < 72057594037927936) (c : UInt8) : bits .or .u64 ((u : Int) * 256) (IntKind.u64.wrap (c.toNat : Int)) = ((u * 256 + c.toNat : Nat) : Int) := by
  have hc := c.toNat_lt
  have e : (u : Int) * 256 = ((u * 256 : Nat) : Int) := by omega
  rw [e, IntKind.wrap_u64, show ((c.toNat : Int) % 18446744073709551616) = (c.toNat : Int) by omega, u64_or_nat _ _ (by omega) (by omega)]
  congr 1
  have := Nat.shiftLeft_add_eq_or_of_lt (i := 8) (b := c.toNat) (by omega) u
  rw [Nat.shiftLeft_eq] at this
  exact this.symm
theorem xor_back (u : Nat) (hu : u < 18446744073709551616) : IntKind.i64.wrap (bits .xor .u64 (u : Int) 9223372036854775808) = (u : Int) - 9223372036854775808 := by
  rw [u64_xor _ _ (by omega) (by omega) (by omega) (by omega)]
  have e3 : (9223372036854775808 : Int).toNat = 9223372036854775808 := rfl
  rw [e3, Int.toNat_natCast]
  rcases Nat.lt_or_ge u 9223372036854775808 with h | h
  · rw [xor_top h, IntKind.wrap_i64]; omega
  · rw [xor_top2 h hu, IntKind.wrap_i64]; omega

set_option maxRecDepth 100000 in
theorem readNumber_any (B : Nat) (A : Option Addr) (c : Nat) (b : List UInt8) (w : World) (hr : Rd w B A (cells b)) (hc : b.length ≤ c) (hB : B ≤ w.heap.size) :
    Calls Try.prog 28 #[.slice A b.length c] w (RetV w B (rone 3 b)) := by
  by_cases hl : b.length < 8
  · have he : rone 3 b = (null, [], 20) := by unfold rone; simp [hl]
    have HE := Lib.hid he
    have hlI : (b.length : Int) < 8 := by omega
    clear he
    go_enter Try.func28, Try.ntmps28
    go_wp2
    refine bodyPost_ret (v := .tuple #[nullA, .slice none 0 0, .int .i64 20]) (by simp [results, Try.results28, go_sem]) rfl (retV_err HE.out (by go_grown))
  · have he : rone 3 b = (⟨2, (num8 0 (b.take 8) : Int) - 9223372036854775808, []⟩, b.drop 8, 0) := by unfold rone; simp [hl]
    have hlI : (8 : Int) ≤ (b.length : Int) := by omega
    have hcI : (8 : Int) ≤ (c : Int) := by omega
    have hl8 : 8 ≤ b.length := by omega
    obtain ⟨A', c', hsl, hrd', hc'⟩ := from_any c 8 hl8 hc hr
    have hcells : ∀ k, k < 8 → ∃ (x : UInt8) (bb oo : Nat), b[k]? = some x ∧ A = some ⟨bb, oo, none⟩ ∧ bb < B ∧ w.cell? ⟨bb, oo + k, none⟩ = some (b8 x) := fun k hk => by
      obtain ⟨bb, oo, hA, hbb, hcc⟩ := hr.at (k := k) (by simp; omega)
      exact ⟨b[k], bb, oo, List.getElem?_eq_getElem (by omega), hA, hbb, hcc k _ (by rw [List.getElem?_map, List.getElem?_eq_getElem (by omega)]; rfl)⟩
    obtain ⟨x0, bb, oo, _, hA, hbb, _⟩ := hcells 0 (by omega)
    have hcell2 : ∀ k, k < 8 → ∃ x : UInt8, b[k]? = some x ∧ w.cell? ⟨bb, oo + k, none⟩ = some (b8 x) := fun k hk => by
      obtain ⟨x, b2, o2, hx, hA2, _, hcc⟩ := hcells k hk
      rw [hA] at hA2; cases hA2
      exact ⟨x, hx, hcc⟩
    subst hA
    have HE := Lib.hid he
    have HC := Lib.hid hcell2
    have HR := Lib.hid hr
    obtain ⟨r, hrr⟩ : ∃ r, r = b.drop 8 := ⟨_, rfl⟩
    rw [← hrr] at hsl hrd' hc'
    have HRR := Lib.hid hrr
    obtain ⟨n, hnn⟩ : ∃ n, n = b.length := ⟨_, rfl⟩
    rw [← hnn] at hsl hlI hl8 hc ⊢
    clear he hcells hcell2 hr hl hrr hnn
    go_enter Try.func28, Try.ntmps28
    go_wp2
    go_loopw [5, 15] (fun v5 v15 wr => ∃ k : Nat, k ≤ 8 ∧ v15 = .int .i64 k ∧ v5 = .int .u64 (num8 0 (b.take k) : Nat) ∧ wr = w.alloc (.cells #[.int .u8 0, .int .i64 0, .string ⟨#[]⟩] 39)) (fun _ v15 _ => 8 - (intOf v15).toNat)
    case atStart => exact ⟨0, by omega, rfl, rfl, rfl⟩
    case round =>
      obtain ⟨k, hk, rfl, rfl, rfl⟩ := hrel
      have hlt := num8_lt (b.take k) 0 0 (by simp)
      rw [List.length_take, Nat.zero_add] at hlt
      rcases Nat.lt_or_ge k 8 with hk8 | hk8
      · obtain ⟨x, hx, hcell⟩ := HC.out k hk8
        have hs : num8 0 (b.take (k + 1)) = num8 0 (b.take k) * 256 + x.toNat := by rw [List.take_add_one, hx]; exact num8_snoc _ _ _
        have hu : num8 0 (b.take k) < 72057594037927936 := Nat.lt_of_lt_of_le hlt (Nat.le_trans (Nat.pow_le_pow_right (by omega) (by omega : min k b.length ≤ 7)) (by decide))
        have HS := Lib.hid hs
        obtain ⟨u, huu⟩ : ∃ u, u = num8 0 (b.take k) := ⟨_, rfl⟩
        rw [← huu] at hu hs ⊢
        have hcal : (w.alloc (.cells #[.int .u8 0, .int .i64 0, .string ⟨#[]⟩] 39)).cell? ⟨bb, oo + k, none⟩ = some (.int .u8 (x.toNat : Int)) := cell_al hcell (by show bb < _; omega) _
        have HS := Lib.hid hs
        clear hs huu hlt hx
        go_wp2_with fail
        go_roundw
        case rel => exact ⟨k + 1, by omega, by go_num, by rw [HS.out, shl_or u hu x], trivial⟩
        case measure => simp [intOf]; omega
      · have hk8' : k = 8 := by omega
        subst hk8'
        have hu : num8 0 (b.take 8) < 18446744073709551616 := Nat.lt_of_lt_of_le hlt (Nat.le_trans (Nat.pow_le_pow_right (by omega) (by omega : min 8 b.length ≤ 8)) (by decide))
        obtain ⟨u, huu⟩ : ∃ u, u = num8 0 (b.take 8) := ⟨_, rfl⟩
        have HE2 : Hid (rone 3 b = (⟨2, (u : Int) - 9223372036854775808, []⟩, r, 0)) := Lib.hid (by rw [HE.out, huu, HRR.out])
        rw [← huu] at hu ⊢
        have hxb := xor_back u hu
        have HX := Lib.hid hxb
        clear huu hlt hk hxb
        go_wp2_with fail
        refine ah_start 9 (fun w' => True) rfl (by kernel_rfl) trivial ?_ ; intro hS
        (refine mv_val 0 (v := ?_) rfl (by kernel_rfl) (by kernel_rfl) (by kernel_rfl) (fun _ _ _ h => h) (by rfl) hS ?_ ?_; rotate_left; (focus (intro w hSw; (try dsimp only at hSw); (have f2 := hsl w 8 rfl); go_simp; first | done | with_reducible rfl)); simp only [Act.put, List.setIfInBounds_toArray, List.set_cons_zero, List.set_cons_succ])
        (refine mv_val 1 (v := ?_) rfl (by kernel_rfl) (by kernel_rfl) (by kernel_rfl) (fun _ _ _ h => h) (by rfl) hS ?_ ?_; rotate_left; (focus (intro w hSw; (try dsimp only at hSw); (have f2 := hsl w 8 rfl); go_simp; first | done | with_reducible rfl)); simp only [Act.put, List.setIfInBounds_toArray, List.set_cons_zero, List.set_cons_succ])
        (refine mv_val 2 (v := ?_) rfl (by kernel_rfl) (by kernel_rfl) (by kernel_rfl) (fun _ _ _ h => h) (by rfl) hS ?_ ?_; rotate_left; (focus (intro w hSw; (try dsimp only at hSw); (have f2 := hsl w 8 rfl); go_simp; first | done | with_reducible rfl)); simp only [Act.put, List.setIfInBounds_toArray, List.set_cons_zero, List.set_cons_succ])
        (refine mv_val 3 (v := ?_) rfl (by kernel_rfl) (by kernel_rfl) (by kernel_rfl) (fun _ _ _ h => h) (by rfl) hS ?_ ?_; rotate_left; (focus (intro w hSw; (try dsimp only at hSw); (have f2 := hsl w 8 rfl); go_simp; first | done | with_reducible rfl)); simp only [Act.put, List.setIfInBounds_toArray, List.set_cons_zero, List.set_cons_succ])
        (refine mv_val 4 (v := ?_) rfl (by kernel_rfl) (by kernel_rfl) (by kernel_rfl) (fun _ _ _ h => h) (by rfl) hS ?_ ?_; rotate_left; (focus (intro w hSw; (try dsimp only at hSw); (have f2 := hsl w 8 rfl); go_simp; first | done | with_reducible rfl)); simp only [Act.put, List.setIfInBounds_toArray, List.set_cons_zero, List.set_cons_succ])
        (refine mv_val 5 (v := ?_) rfl (by kernel_rfl) (by kernel_rfl) (by kernel_rfl) (fun _ _ _ h => h) (by rfl) hS ?_ ?_; rotate_left; (focus (intro w hSw; (try dsimp only at hSw); (have f2 := hsl w 8 rfl); go_simp; first | done | with_reducible rfl)); simp only [Act.put, List.setIfInBounds_toArray, List.set_cons_zero, List.set_cons_succ])
        refine mv_step 6 rfl (by kernel_rfl) (by rfl) (fun K hK => ?_)
        go_simp
        refine hK _ _ ?_ ?_ <;> clear hK K
        · trivial
        try simp only [Act.put, List.setIfInBounds_toArray, List.set_cons_zero, List.set_cons_succ]
        (refine mv_val 7 (v := ?_) rfl (by kernel_rfl) (by kernel_rfl) (by kernel_rfl) (fun _ _ _ h => h) (by rfl) hS ?_ ?_; rotate_left; (focus (intro w hSw; (try dsimp only at hSw); (have f2 := hsl w 8 rfl); go_simp; first | done | with_reducible rfl)); simp only [Act.put, List.setIfInBounds_toArray, List.set_cons_zero, List.set_cons_succ])
        (refine mv_val 8 (v := ?_) rfl (by kernel_rfl) (by kernel_rfl) (by kernel_rfl) (fun _ _ _ h => h) (by rfl) hS ?_ ?_; rotate_left; (focus (intro w hSw; (try dsimp only at hSw); (have f2 := hsl w 8 rfl); go_simp; first | done | with_reducible rfl)); simp only [Act.put, List.setIfInBounds_toArray, List.set_cons_zero, List.set_cons_succ])
        refine wpAnyH_done (by kernel_rfl) ?_ _
        rw [HX.out]
        go_wp2
        refine bodyPost_ret (v := .tuple #[va ⟨2, (u : Int) - 9223372036854775808, []⟩, .slice A' r.length c', .int .i64 0]) (by simp [results, Try.results28, go_sem]) rfl (retV_ok rfl HE2.out hrd' hc' hB (by go_grown))
end Go.Proofs.Ytdbhbfpfcdklmaa

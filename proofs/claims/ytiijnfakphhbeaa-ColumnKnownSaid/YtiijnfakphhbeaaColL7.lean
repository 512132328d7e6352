/- The law ColumnKnown (layer 6), walked: it answers true. No condition. -/
import Derived.Test.YtiijnfakphhbeaaColL4
namespace Go.Proofs.Ytiijnfakphhbeaa
open Go.RowKit Go.Maps
set_option linter.unusedVariables false
set_option linter.unusedSimpArgs false

structure Ent where
  k : UInt8
  b : List UInt8
  n : Int
  e : Nat
def tblC : List Ent := [⟨3, [0, 2, 1, 97, 1, 97, 0, 1], 2, 21⟩, ⟨3, [0, 2, 1, 97, 1, 98, 0, 0], 2, 21⟩, ⟨3, [0, 2, 1, 97, 1, 98, 1, 0], 2, 21⟩, ⟨3, [0, 1, 1, 97, 0, 1], 2, 21⟩, ⟨3, [0, 1, 1, 97, 0, 0], 2, 0⟩, ⟨3, [3, 0], 2, 0⟩, ⟨3, [3], 2, 20⟩, ⟨3, [3, 1, 0], 2, 21⟩, ⟨1, [0, 5], 3, 0⟩, ⟨1, [0, 8], 3, 21⟩, ⟨1, [8, 0], 3, 21⟩, ⟨1, [0], 3, 20⟩, ⟨1, [0, 5, 0], 3, 21⟩, ⟨2, [2, 1, 20, 1, 0], 3, 0⟩, ⟨2, [2, 1, 20], 3, 20⟩, ⟨2, [], 0, 0⟩, ⟨2, [], 1, 20⟩, ⟨3, [0], 0, 0⟩, ⟨0, [], 0, 1⟩, ⟨4, [], 0, 1⟩, ⟨2, [], -1, 1⟩, ⟨2, [], 65537, 1⟩]
theorem tblC_all : ∀ p ∈ tblC, (cget p.k p.b p.n).2 = p.e ∧ p.b.length ≤ 20 ∧ (-9223372036854775808 ≤ p.n ∧ p.n ≤ 9223372036854775807) ∧ (p.n ≤ 65536 → p.n.toNat ≤ 20) := by decide +kernel
abbrev ecells (p : Ent) : List Value := [.int .u8 (p.k.toNat : Int), .string ⟨p.b.toArray⟩, .int .i64 p.n, .int .i64 (p.e : Int)]
abbrev tcellsC : List Value := tblC.flatMap ecells
theorem tcellsC_at : ∀ k (hk : k < 22), tcellsC[k * 4]? = some (b8 (tblC[k]'hk).k) ∧ tcellsC[k * 4 + 1]? = some (txt (tblC[k]'hk).b) ∧ tcellsC[k * 4 + 2]? = some (.int .i64 (tblC[k]'hk).n) ∧ tcellsC[k * 4 + 3]? = some (.int .i64 ((tblC[k]'hk).e : Int))
  | 0, _ => ⟨rfl, rfl, rfl, rfl⟩
  | 1, _ => ⟨rfl, rfl, rfl, rfl⟩
  | 2, _ => ⟨rfl, rfl, rfl, rfl⟩
  | 3, _ => ⟨rfl, rfl, rfl, rfl⟩
  | 4, _ => ⟨rfl, rfl, rfl, rfl⟩
  | 5, _ => ⟨rfl, rfl, rfl, rfl⟩
  | 6, _ => ⟨rfl, rfl, rfl, rfl⟩
  | 7, _ => ⟨rfl, rfl, rfl, rfl⟩
  | 8, _ => ⟨rfl, rfl, rfl, rfl⟩
  | 9, _ => ⟨rfl, rfl, rfl, rfl⟩
  | 10, _ => ⟨rfl, rfl, rfl, rfl⟩
  | 11, _ => ⟨rfl, rfl, rfl, rfl⟩
  | 12, _ => ⟨rfl, rfl, rfl, rfl⟩
  | 13, _ => ⟨rfl, rfl, rfl, rfl⟩
  | 14, _ => ⟨rfl, rfl, rfl, rfl⟩
  | 15, _ => ⟨rfl, rfl, rfl, rfl⟩
  | 16, _ => ⟨rfl, rfl, rfl, rfl⟩
  | 17, _ => ⟨rfl, rfl, rfl, rfl⟩
  | 18, _ => ⟨rfl, rfl, rfl, rfl⟩
  | 19, _ => ⟨rfl, rfl, rfl, rfl⟩
  | 20, _ => ⟨rfl, rfl, rfl, rfl⟩
  | 21, _ => ⟨rfl, rfl, rfl, rfl⟩
  | k + 22, h => absurd h (by omega)
theorem cgot_len {t : UInt8} {b : List UInt8} {n : Int} {m : List V} {e : Nat} (h : cget t b n = (m, e)) : (e = 0 ∧ (m.length : Int) = n) ∨ (e ≠ 0 ∧ m = []) := by
  by_cases he : e = 0
  · subst he
    exact .inl ⟨rfl, (cget_inv h).2.2.2.1⟩
  · rcases @cget_errv t b n with h1 | ⟨h1, _⟩ | ⟨h1, _⟩
    · rw [h] at h1; exact absurd h1 he
    · rw [h] at h1; exact .inr ⟨he, h1⟩
    · rw [h] at h1; exact .inr ⟨he, h1⟩
theorem marks_nulls (n : Nat) : marks (List.replicate n null) = [] := by
  unfold marks
  rw [List.filter_eq_nil_iff]
  intro v hv
  rw [(List.mem_replicate.1 hv).2]; decide
theorem put_many (n : Nat) (hn : 65536 < n) : cput 2 (List.replicate n null) = ([], 1) := by
  refine cput_no ?_
  unfold colok
  rw [List.length_replicate, show decide (n ≤ 65536) = false from decide_eq_false (by omega)]; simp
theorem put_nulls (n : Nat) (hn : n ≤ 65536) : cput 2 (List.replicate n null) = (bitsN n (nullAt (List.replicate n null)), 0) := by
  have h : colok 2 (List.replicate n null) = true := by
    unfold colok
    simp only [List.length_replicate, Bool.and_eq_true, decide_eq_true_eq, List.all_eq_true]
    refine ⟨by decide, hn, fun v hv => ?_⟩
    rw [(List.mem_replicate.1 hv).2]; decide
  rw [cput_of h, marks_nulls, List.length_replicate, show cbody 2 [] = [] by decide +kernel, List.append_nil]
theorem make_vals (n : Nat) (hn : n ≤ 65537) (w : World) : ∃ w1, (Instr.makeSlice 22 (.int .i64 (n : Int)) (.int .i64 (n : Int))).run Try.prog w = .ok (.slice (some ⟨w.heap.size, 0, none⟩) n n) w1 ∧
    Rd w1 w1.heap.size (some ⟨w.heap.size, 0, none⟩) (vcells (List.replicate n null)) ∧ Below w.heap.size w w1 := by
  obtain ⟨by_, hinfo, hby⟩ := Try.infoVal
  obtain ⟨i0, hi, hz0, hz1, hz2⟩ := info_parts hinfo
  obtain ⟨w1, hmk, hown, hg⟩ := run_make_full (P := Try.prog) w w.heap.size 22 38 i0 (.agg #[.int .u8 0, .int .i64 0, .string ByteArray.empty]) 3 Try.underlying22 hi hz0 hz1 .i64 .i64 n (by rw [hz2]; exact Nat.le_trans (Nat.mul_le_mul hby hn) (by decide)) (by unfold maxLen; omega) (Nat.le_refl _)
  refine ⟨w1, hmk, ?_, (Below.refl _ w).grown hg (Nat.le_refl _) (by simp)⟩
  have h := rd_own hown
  rwa [vcells_rep null n (Value.agg #[.int .u8 0, .int .i64 0, .string ByteArray.empty]).cells rfl] at h
theorem null_ok (n : Nat) : ∀ v ∈ List.replicate n null, v.k < 256 ∧ i64r v.n ∧ v.t.length ≤ 1000000 := fun v hv => by
  rw [(List.mem_replicate.1 hv).2]; exact ⟨by decide, by unfold i64r; decide, by decide⟩
abbrev kbv : List V := [⟨2, 3, []⟩, null, ⟨2, 1, []⟩, ⟨2, 2, []⟩]
theorem kn1 : cput 1 [⟨2, 1, []⟩] = ([], 1) := by decide +kernel
theorem kn2 : bnds kbv = (⟨2, 1, []⟩, ⟨2, 3, []⟩) := by decide +kernel
theorem kn_sz : (1 ≤ 65536 → ((words (marks [(⟨2, 1, []⟩ : V)])).flatMap wbytes).length ≤ 4000000000) ∧ (1 ≤ 65536 → (cbody 1 (marks [(⟨2, 1, []⟩ : V)])).length ≤ 4611686018) := by decide +kernel

set_option maxHeartbeats 8000000 in
set_option maxRecDepth 100000 in
theorem columnKnown_walk (W : World) :
    Calls Try.prog 10 #[] W fun e w' => e = .returned (.bool true) ∧ Below W.heap.size W w' := by
  obtain ⟨W1, hW1⟩ : ∃ W1, W1 = W.alloc (.cells tcellsC.toArray 46) := ⟨_, rfl⟩
  have hz1 : W1.heap.size = W.heap.size + 1 := by rw [hW1]; simp
  have hb01 : Below W.heap.size W W1 := by rw [hW1]; exact (Below.refl _ _).alloc (Nat.le_refl _) _
  have hcells : ∀ w', Below W1.heap.size W1 w' → ∀ k (hk : k < 22),
      w'.cell? ⟨W.heap.size, k * 4, none⟩ = some (b8 (tblC[k]'hk).k) ∧ w'.cell? ⟨W.heap.size, k * 4 + 1, none⟩ = some (txt (tblC[k]'hk).b) ∧ w'.cell? ⟨W.heap.size, k * 4 + 2, none⟩ = some (.int .i64 (tblC[k]'hk).n) ∧ w'.cell? ⟨W.heap.size, k * 4 + 3, none⟩ = some (.int .i64 ((tblC[k]'hk).e : Int)) := by
    intro w' hb k hk
    have h := tcellsC_at k hk
    have hn : W1.heap[W.heap.size]? = some (.cells tcellsC.toArray 46) := by
      rw [hW1]; exact heap_alloc_new W _
    have hc : ∀ o, w'.cell? ⟨W.heap.size, o, none⟩ = tcellsC[o]? := fun o => by
      rw [hb.cell (p := ⟨W.heap.size, o, none⟩) (by show W.heap.size < _; omega), cell_of_row _ W.heap.size _ _ _ _ hn]
      simp only [List.getElem?_toArray]
    rw [hc, hc, hc, hc]
    exact h
  have HC := Lib.hid hcells
  have e01 : W.alloc (.cells tcellsC.toArray 46) = W1 := hW1.symm
  clear hcells hW1
  go_enter Try.func10, Try.ntmps10
  go_wp2
  have E01 := Lib.hid e01
  clear e01
  go_loopw [2] (fun vi wr => ∃ k : Nat, k ≤ 22 ∧ vi = .int .i64 k ∧ Below W1.heap.size W1 wr)
    (fun vi _ => (22 - intOf vi).toNat)
  case atStart => exact ⟨0, by omega, rfl, by rw [← E01.out]; exact Below.refl _ _⟩
  case round =>
    obtain ⟨k, hk, rfl, hbel⟩ := hrel
    have hz := hbel.size
    have hb0 : Below W.heap.size W wr := hb01.trans (hbel.mono (by omega))
    by_cases hk22 : k < 22
    · have hv := tblC_all (tblC[k]'hk22) (List.getElem_mem _)
      obtain ⟨ent, hent⟩ : ∃ p, p = tblC[k]'hk22 := ⟨_, rfl⟩
      have HC2 := Lib.hid (fun w' hw => HC.out w' hw k hk22)
      rw [← hent] at hv HC2
      obtain ⟨t, bs, n, e⟩ := ent
      dsimp only at hv HC2
      clear hent
      obtain ⟨hv, hlb, hn, hns⟩ := hv
      obtain ⟨ms, hms⟩ : ∃ m, cget t bs n = (m, e) := ⟨(cget t bs n).1, by rw [← hv]⟩
      obtain ⟨c5, o5, hcv, hrd, hle⟩ := conv_str wr.drew bs
      have P1 := Lib.hid (cget_any (wr.heap.size + 1) (some ⟨wr.heap.size, 0, none⟩) c5 t bs n (wr.drew.drew.alloc o5) hrd hle (by rw [World.size_alloc]; exact Nat.le_refl _) hn (by omega) (fun h0 h6 => Nat.le_trans (Nat.mul_le_mul (show n.toNat + 1 ≤ 21 by have := hns h6; omega) (show bs.length + 10 ≤ 30 by omega)) (by decide)))
      rw [hms] at P1
      have hkI : (k : Int) < 22 := by omega
      have HMS := Lib.hid (cgot_len hms)
      obtain ⟨q0, q1, q2, q3⟩ := HC2.out wr hbel
      clear hv hms hrd hns
      go_wp2_with fail
      refine ah_start 22 (fun w' => Below W1.heap.size W1 w') rfl (by kernel_rfl) hbel.drew ?_ ; intro hS
      (refine mv_val 0 (v := ?_) rfl (by kernel_rfl) (by kernel_rfl) (by kernel_rfl) (fun _ _ _ h => h) (by rfl) hS ?_ ?_; rotate_left; (focus (intro w hSw; (try dsimp only at hSw); (obtain ⟨f0, f1, f2, f3⟩ := HC2.out w hSw; have f7 := hkI; have f8 := hk22); go_simp; first | done | with_reducible rfl)); simp only [Act.put, List.setIfInBounds_toArray, List.set_cons_zero, List.set_cons_succ])
      (refine mv_val 1 (v := ?_) rfl (by kernel_rfl) (by kernel_rfl) (by kernel_rfl) (fun _ _ _ h => h) (by rfl) hS ?_ ?_; rotate_left; (focus (intro w hSw; (try dsimp only at hSw); (obtain ⟨f0, f1, f2, f3⟩ := HC2.out w hSw; have f7 := hkI; have f8 := hk22); go_simp; first | done | with_reducible rfl)); simp only [Act.put, List.setIfInBounds_toArray, List.set_cons_zero, List.set_cons_succ])
      (refine mv_val 2 (v := ?_) rfl (by kernel_rfl) (by kernel_rfl) (by kernel_rfl) (fun _ _ _ h => h) (by rfl) hS ?_ ?_; rotate_left; (focus (intro w hSw; (try dsimp only at hSw); (obtain ⟨f0, f1, f2, f3⟩ := HC2.out w hSw; have f7 := hkI; have f8 := hk22); go_simp; first | done | with_reducible rfl)); simp only [Act.put, List.setIfInBounds_toArray, List.set_cons_zero, List.set_cons_succ])
      (refine mv_val 3 (v := ?_) rfl (by kernel_rfl) (by kernel_rfl) (by kernel_rfl) (fun _ _ _ h => h) (by rfl) hS ?_ ?_; rotate_left; (focus (intro w hSw; (try dsimp only at hSw); (obtain ⟨f0, f1, f2, f3⟩ := HC2.out w hSw; have f7 := hkI; have f8 := hk22); go_simp; first | done | with_reducible rfl)); simp only [Act.put, List.setIfInBounds_toArray, List.set_cons_zero, List.set_cons_succ])
      (refine mv_val 4 (v := ?_) rfl (by kernel_rfl) (by kernel_rfl) (by kernel_rfl) (fun _ _ _ h => h) (by rfl) hS ?_ ?_; rotate_left; (focus (intro w hSw; (try dsimp only at hSw); (obtain ⟨f0, f1, f2, f3⟩ := HC2.out w hSw; have f7 := hkI; have f8 := hk22); go_simp; first | done | with_reducible rfl)); simp only [Act.put, List.setIfInBounds_toArray, List.set_cons_zero, List.set_cons_succ])
      (refine mv_val 5 (v := ?_) rfl (by kernel_rfl) (by kernel_rfl) (by kernel_rfl) (fun _ _ _ h => h) (by rfl) hS ?_ ?_; rotate_left; (focus (intro w hSw; (try dsimp only at hSw); (obtain ⟨f0, f1, f2, f3⟩ := HC2.out w hSw; have f7 := hkI; have f8 := hk22); go_simp; first | done | with_reducible rfl)); simp only [Act.put, List.setIfInBounds_toArray, List.set_cons_zero, List.set_cons_succ])
      (refine mv_val 6 (v := ?_) rfl (by kernel_rfl) (by kernel_rfl) (by kernel_rfl) (fun _ _ _ h => h) (by rfl) hS ?_ ?_; rotate_left; (focus (intro w hSw; (try dsimp only at hSw); (obtain ⟨f0, f1, f2, f3⟩ := HC2.out w hSw; have f7 := hkI; have f8 := hk22); go_simp; first | done | with_reducible rfl)); simp only [Act.put, List.setIfInBounds_toArray, List.set_cons_zero, List.set_cons_succ])
      (refine mv_val 7 (v := ?_) rfl (by kernel_rfl) (by kernel_rfl) (by kernel_rfl) (fun _ _ _ h => h) (by rfl) hS ?_ ?_; rotate_left; (focus (intro w hSw; (try dsimp only at hSw); (obtain ⟨f0, f1, f2, f3⟩ := HC2.out w hSw; have f7 := hkI; have f8 := hk22); go_simp; first | done | with_reducible rfl)); simp only [Act.put, List.setIfInBounds_toArray, List.set_cons_zero, List.set_cons_succ])
      (refine mv_val 8 (v := ?_) rfl (by kernel_rfl) (by kernel_rfl) (by kernel_rfl) (fun _ _ _ h => h) (by rfl) hS ?_ ?_; rotate_left; (focus (intro w hSw; (try dsimp only at hSw); (obtain ⟨f0, f1, f2, f3⟩ := HC2.out w hSw; have f7 := hkI; have f8 := hk22); go_simp; first | done | with_reducible rfl)); simp only [Act.put, List.setIfInBounds_toArray, List.set_cons_zero, List.set_cons_succ])
      (refine mv_val 9 (v := ?_) rfl (by kernel_rfl) (by kernel_rfl) (by kernel_rfl) (fun _ _ _ h => h) (by rfl) hS ?_ ?_; rotate_left; (focus (intro w hSw; (try dsimp only at hSw); (obtain ⟨f0, f1, f2, f3⟩ := HC2.out w hSw; have f7 := hkI; have f8 := hk22); go_simp; first | done | with_reducible rfl)); simp only [Act.put, List.setIfInBounds_toArray, List.set_cons_zero, List.set_cons_succ])
      (refine mv_val 11 (v := ?_) rfl (by kernel_rfl) (by kernel_rfl) (by kernel_rfl) (fun _ _ _ h => h) (by rfl) hS ?_ ?_; rotate_left; (focus (intro w hSw; (try dsimp only at hSw); (obtain ⟨f0, f1, f2, f3⟩ := HC2.out w hSw; have f7 := hkI; have f8 := hk22); go_simp; first | done | with_reducible rfl)); simp only [Act.put, List.setIfInBounds_toArray, List.set_cons_zero, List.set_cons_succ])
      (refine mv_val 12 (v := ?_) rfl (by kernel_rfl) (by kernel_rfl) (by kernel_rfl) (fun _ _ _ h => h) (by rfl) hS ?_ ?_; rotate_left; (focus (intro w hSw; (try dsimp only at hSw); (obtain ⟨f0, f1, f2, f3⟩ := HC2.out w hSw; have f7 := hkI; have f8 := hk22); go_simp; first | done | with_reducible rfl)); simp only [Act.put, List.setIfInBounds_toArray, List.set_cons_zero, List.set_cons_succ])
      (refine mv_val 13 (v := ?_) rfl (by kernel_rfl) (by kernel_rfl) (by kernel_rfl) (fun _ _ _ h => h) (by rfl) hS ?_ ?_; rotate_left; (focus (intro w hSw; (try dsimp only at hSw); (obtain ⟨f0, f1, f2, f3⟩ := HC2.out w hSw; have f7 := hkI; have f8 := hk22); go_simp; first | done | with_reducible rfl)); simp only [Act.put, List.setIfInBounds_toArray, List.set_cons_zero, List.set_cons_succ])
      (refine mv_val 14 (v := ?_) rfl (by kernel_rfl) (by kernel_rfl) (by kernel_rfl) (fun _ _ _ h => h) (by rfl) hS ?_ ?_; rotate_left; (focus (intro w hSw; (try dsimp only at hSw); (obtain ⟨f0, f1, f2, f3⟩ := HC2.out w hSw; have f7 := hkI; have f8 := hk22); go_simp; first | done | with_reducible rfl)); simp only [Act.put, List.setIfInBounds_toArray, List.set_cons_zero, List.set_cons_succ])
      (refine mv_val 15 (v := ?_) rfl (by kernel_rfl) (by kernel_rfl) (by kernel_rfl) (fun _ _ _ h => h) (by rfl) hS ?_ ?_; rotate_left; (focus (intro w hSw; (try dsimp only at hSw); (obtain ⟨f0, f1, f2, f3⟩ := HC2.out w hSw; have f7 := hkI; have f8 := hk22); go_simp; first | done | with_reducible rfl)); simp only [Act.put, List.setIfInBounds_toArray, List.set_cons_zero, List.set_cons_succ])
      refine mv_step 10 rfl (by kernel_rfl) (by rfl) (fun K hK => ?_)
      go_simp
      refine hK _ _ ?_ ?_ <;> clear hK K
      · exact (hbel.drew.drew).alloc hz _
      replace hS : Below W1.heap.size W1 (wr.drew.drew.alloc o5) := (hbel.drew.drew).alloc hz _
      try simp only [Act.put, List.setIfInBounds_toArray, List.set_cons_zero, List.set_cons_succ]
      (refine mv_call 16 (f := ?_) (args := ?_) rfl (by kernel_rfl) (by rfl) ?_ ?_; rotate_left 2; (focus (go_simp; first | done | with_reducible rfl | (refine ⟨?_, ?_⟩ <;> with_reducible rfl))))
      refine (P1.out).mono ?_; rintro ee w4 ⟨A4, c4, rfl, hown4, hb4⟩
      dsimp only at hown4 ⊢
      have hbel4 : Below W1.heap.size W1 w4 := hS.trans (hb4.mono (by simp; omega))
      refine ⟨_, rfl, hbel4, ?_⟩
      replace hS := hbel4
      simp only [Act.put, List.setIfInBounds_toArray, List.set_cons_zero, List.set_cons_succ]
      (refine mv_val 17 (v := ?_) rfl (by kernel_rfl) (by kernel_rfl) (by kernel_rfl) (fun _ _ _ h => h) (by rfl) hS ?_ ?_; rotate_left; (focus (intro w hSw; (try dsimp only at hSw); (obtain ⟨f0, f1, f2, f3⟩ := HC2.out w hSw; have f7 := hkI; have f8 := hk22); go_simp; first | done | with_reducible rfl)); simp only [Act.put, List.setIfInBounds_toArray, List.set_cons_zero, List.set_cons_succ])
      (refine mv_val 18 (v := ?_) rfl (by kernel_rfl) (by kernel_rfl) (by kernel_rfl) (fun _ _ _ h => h) (by rfl) hS ?_ ?_; rotate_left; (focus (intro w hSw; (try dsimp only at hSw); (obtain ⟨f0, f1, f2, f3⟩ := HC2.out w hSw; have f7 := hkI; have f8 := hk22); go_simp; first | done | with_reducible rfl)); simp only [Act.put, List.setIfInBounds_toArray, List.set_cons_zero, List.set_cons_succ])
      (refine mv_val 19 (v := ?_) rfl (by kernel_rfl) (by kernel_rfl) (by kernel_rfl) (fun _ _ _ h => h) (by rfl) hS ?_ ?_; rotate_left; (focus (intro w hSw; (try dsimp only at hSw); (obtain ⟨f0, f1, f2, f3⟩ := HC2.out w hSw; have f7 := hkI; have f8 := hk22); go_simp; first | done | with_reducible rfl)); simp only [Act.put, List.setIfInBounds_toArray, List.set_cons_zero, List.set_cons_succ])
      (refine mv_val 20 (v := ?_) rfl (by kernel_rfl) (by kernel_rfl) (by kernel_rfl) (fun _ _ _ h => h) (by rfl) hS ?_ ?_; rotate_left; (focus (intro w hSw; (try dsimp only at hSw); (obtain ⟨f0, f1, f2, f3⟩ := HC2.out w hSw; have f7 := hkI; have f8 := hk22); go_simp; first | done | with_reducible rfl)); simp only [Act.put, List.setIfInBounds_toArray, List.set_cons_zero, List.set_cons_succ])
      (refine mv_val 21 (v := ?_) rfl (by kernel_rfl) (by kernel_rfl) (by kernel_rfl) (fun _ _ _ h => h) (by rfl) hS ?_ ?_; rotate_left; (focus (intro w hSw; (try dsimp only at hSw); (obtain ⟨f0, f1, f2, f3⟩ := HC2.out w hSw; have f7 := hkI; have f8 := hk22); go_simp; first | done | with_reducible rfl)); simp only [Act.put, List.setIfInBounds_toArray, List.set_cons_zero, List.set_cons_succ])
      refine wpAnyH_done (by kernel_rfl) ?_ _
      obtain ⟨q0, q1, q2, q3⟩ := HC2.out w4 hbel4
      clear hcv hown4
      rcases HMS.out with ⟨rfl, h3⟩ | ⟨h2, rfl⟩
      · have h3I : ((ms.length : Int) != n) = false := by simp; exact h3
        clear h3
        go_wp2_with fail
        go_roundw
        case rel => exact ⟨k + 1, by omega, by go_num, hbel4⟩
        case measure => simp [intOf]; omega
      · have he : ((e : Int) == 0) = false := beq_eq_false_iff_ne.2 (by omega)
        have he2 : ((e : Int) != 0) = true := by simp; exact h2
        clear h2
        go_wp2_with fail
        go_roundw
        case rel => exact ⟨k + 1, by omega, by go_num, hbel4⟩
        case measure => simp [intOf]; omega
    · have hk22' : k = 22 := by omega
      subst hk22'
      have K1 := fun (w : World) => cput_any 1 (some ⟨w.heap.size, 0, none⟩) 1 [⟨2, 1, []⟩] (w.alloc (.cells (vcells [(⟨2, 1, []⟩ : V)]).toArray 38)) ((rd_arr w _ _ _ _ rfl (Nat.lt_succ_self _)).more (by simp)) (by
        intro v hv; simp at hv; subst hv; exact ⟨by decide, by unfold i64r; decide, by decide⟩) (by decide) kn_sz.1 kn_sz.2
      rw [kn1] at K1
      have K2 := fun (n : Nat) (hn : n ≤ 65537) (A : Option Addr) (w : World) h => cput_any 2 A n (List.replicate n null) w h (null_ok n) (by rw [List.length_replicate]; omega) (fun _ => by rw [marks_nulls]; decide) (fun _ => by rw [marks_nulls]; decide +kernel)
      have K3 := fun (w : World) => bounds_any (w.heap.size + 1) (some ⟨w.heap.size, 0, none⟩) 4 kbv (w.alloc (.cells (vcells kbv).toArray 38)) (rd_arr w _ _ _ _ rfl (Nat.lt_succ_self _)) (by simp) (by decide) (by
        intro v hv; simp at hv; rcases hv with rfl | rfl | rfl | rfl <;> exact ⟨by decide, by unfold i64r; decide, by decide⟩)
      rw [kn2] at K3
      simp only [List.length_replicate] at K2
      have H1 := Lib.hid K1
      have H3 := Lib.hid K3
      have HB := Lib.hid (K2 65537 (by omega))
      have HD := Lib.hid (K2 65536 (by omega))
      rw [put_many 65537 (by omega)] at HB
      rw [put_nulls 65536 (by omega)] at HD
      have hl8 : (bitsN 65536 (nullAt (List.replicate 65536 null))).length = 8192 := by rw [bitsN_len]; rfl
      obtain ⟨bb, hbb⟩ : ∃ x, x = bitsN 65536 (nullAt (List.replicate 65536 null)) := ⟨_, rfl⟩
      rw [← hbb] at HD hl8
      have HL8 := Lib.hid hl8
      clear K1 K2 K3 HC hbb hl8
      go_wp2_with fail
      refine (H1.out wr).mono ?_; rintro e w2 ⟨A2, c2, rfl, hown2, hb2⟩
      have b2 : Below W1.heap.size W1 w2 := (hbel.alloc hz _).trans (hb2.mono (by simp; omega))
      have s2 := b2.size
      obtain ⟨w3, hmk3, hrd3, hb3⟩ := make_vals 65537 (by omega) w2
      have hmk3' : (Instr.makeSlice 22 (.int .i64 65537) (.int .i64 65537)).run Try.prog w2 = .ok (.slice (some ⟨w2.heap.size, 0, none⟩) 65537 65537) w3 := hmk3
      have b3 : Below W1.heap.size W1 w3 := b2.trans (hb3.mono s2)
      have HR3 := Lib.hid hrd3
      clear hmk3 hown2 hrd3
      go_wp2_with fail
      refine (HB.out _ w3 HR3.out).mono ?_; rintro e w4 ⟨A4, c4, rfl, hown4, hb4⟩
      have b4 : Below W1.heap.size W1 w4 := b3.trans (hb4.mono b3.size)
      have s4 := b4.size
      obtain ⟨w5, hmk5, hrd5, hb5⟩ := make_vals 65536 (by omega) w4
      have hmk5' : (Instr.makeSlice 22 (.int .i64 65536) (.int .i64 65536)).run Try.prog w4 = .ok (.slice (some ⟨w4.heap.size, 0, none⟩) 65536 65536) w5 := hmk5
      have b5 : Below W1.heap.size W1 w5 := b4.trans (hb5.mono s4)
      have HR5 := Lib.hid hrd5
      clear hmk5 hown4 hrd5 hmk3'
      go_wp2_with fail
      refine (HD.out _ w5 HR5.out).mono ?_; rintro e w6 ⟨A6, c6, rfl, hown6, hb6⟩
      have b6 : Below W1.heap.size W1 w6 := b5.trans (hb6.mono b5.size)
      have s6 := b6.size
      dsimp only
      rw [HL8.out]
      clear hown6 hmk5'
      go_wp2_with fail
      refine (H3.out w6).mono ?_; rintro e w7 ⟨rfl, hb7⟩
      have b7 : Below W1.heap.size W1 w7 := (b6.alloc s6 _).trans (hb7.mono (by simp; omega))
      have s7 := b7.size
      go_wp2_with fail
      refine (puts_any _).mono ?_; rintro e w8 ⟨rfl, hb8⟩
      have b8' : Below W1.heap.size W1 w8 := ((b7.alloc s7 _).alloc (by simp; omega) _).trans (hb8.mono (by simp; omega))
      go_wp2_with fail
      go_ret
      exact ⟨rfl, hb01.trans (b8'.mono (by omega))⟩
end Go.Proofs.Ytiijnfakphhbeaa

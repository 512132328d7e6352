/- The walks of the six functions of the table row.ways (layer 4): a value laid behind bytes of the call's own; a value read. No condition but sizes. -/
import Derived.Test.YtfnbckgpldkgmaaRow2
namespace Go.Proofs.Ytfnbckgpldkgmaa
open Go.RowKit Go.Maps
set_option linter.unusedVariables false
set_option linter.unusedSimpArgs false

/-- What a call leaves that lays bytes behind ones of the call's own: they lie there or in new memory; nothing else has turned. -/
def RetG (w : World) (base : Nat) (vb : Value) (l : List UInt8) (e : Ending) (w' : World) : Prop :=
  ∃ v', e = .returned v' ∧ w'.ownsRow base 5 1 v' l.length (cells l) ∧ Below base w w' ∧ ∀ k, k < w.heap.size → vb.ownBlock ≠ some k → w'.heap[k]? = w.heap[k]?
theorem own_lower {w : World} {base B n sz : Nat} {e : TypeId} {v : Value} {xs : List Value} (h : w.ownsRow B e sz v n xs) (hB : base ≤ B) : w.ownsRow base e sz v n xs := by
  obtain ⟨h1, h2⟩ := h
  refine ⟨h1, ?_⟩
  rcases h2 with h2 | ⟨g, cap, cur, hv, hb, rest⟩
  · exact .inl h2
  · exact .inr ⟨g, cap, cur, hv, by omega, rest⟩
theorem cv_block (w : World) (k n x : Value) (T : TypeId) : (w.alloc (.cells #[k, n, x] T)).cell? ⟨w.heap.size, 0, none⟩ = some k ∧ (w.alloc (.cells #[k, n, x] T)).cell? ⟨w.heap.size, 1, none⟩ = some n ∧ (w.alloc (.cells #[k, n, x] T)).cell? ⟨w.heap.size, 2, none⟩ = some x := by
  refine ⟨?_, ?_, ?_⟩ <;> simp [go_sem]

section
variable (base : Nat) (A : Option Addr) (c : Nat) (b : List UInt8) (w : World) (hown : w.ownsRow base 5 1 (.slice A b.length c) b.length (cells b)) (hbase : base ≤ w.heap.size) (hlen : b.length ≤ 4294967296)
include hown hbase hlen

set_option maxRecDepth 100000 in
theorem put1_any (n : Nat) (t : List UInt8) (hn : n = 0 ∨ n = 1) :
    Calls Try.prog 25 #[.slice A b.length c, va ⟨1, (n : Int), t⟩] w (RetG w base (.slice A b.length c) (b ++ [n.toUInt8])) := by
  have hn1 : n < 256 := by omega
  go_enter Try.func25, Try.ntmps25
  go_wp2_with (at_builtin; refine wpList_app El_u8 rfl _ _ rfl ((hown.alloc _).alloc _) rfl rfl (by exact rd_one _ _ _ _ _ (World.size_alloc _ _).symm (Nat.lt_add_one _)) rfl one_int (by unfold maxLen; omega) (by omega) (by simp; omega) ?_; intro v2 w2 hown2 hg2 _)
  have hb2 : Below base w w2 := (((Below.refl base w).alloc hbase _).alloc (by simp; omega) _).trans (own_below ((hown.alloc _).alloc _) hg2 (by simp; omega))
  have hk : ∀ k, k < w.heap.size → (Value.slice A b.length c).ownBlock ≠ some k → w2.heap[k]? = w.heap[k]? := fun k hk hne =>
    (hg2.block k (by simp; omega) (fun e => hne e.symm)).trans ((((Below.refl w.heap.size w).alloc (Nat.le_refl _) _).alloc (by simp) _).block k hk)
  go_ret
  refine ⟨v2, rfl, ?_, hb2, hk⟩
  rw [cells_snoc _ hn1, List.length_append, List.length_singleton]
  exact hown2

set_option maxRecDepth 100000 in
theorem put2_any (n : Int) (t : List UInt8) (hn : i64r n) :
    Calls Try.prog 27 #[.slice A b.length c, va ⟨2, n, t⟩] w (RetG w base (.slice A b.length c) (b ++ vput (zig n).toNat)) := by
  have hz := zig_bd n hn.1 hn.2
  obtain ⟨u, hu⟩ : ∃ u : Nat, zig n = u := Int.eq_ofNat_of_zero_le hz.1
  have hu2 : (zig n).toNat = u := by omega
  have hub : u < 18446744073709551616 := by omega
  have Z0 := fun w => Zig_any n hn.1 hn.2 w
  rw [hu] at Z0
  rw [hu2]
  have HZ := Lib.hid Z0
  clear Z0 hu hz hu2
  go_enter Try.func27, Try.ntmps27
  go_wp2_with fail
  refine (HZ.out _).mono ?_; rintro e w1 ⟨rfl, hw1⟩
  go_wp2_with fail
  have hown1 : w1.ownsRow base 5 1 (.slice A b.length c) b.length (cells b) := by rw [← hw1]; exact hown.alloc _
  have hb1 : Below w.heap.size w w1 := by rw [← hw1]; exact (Below.refl _ _).alloc (Nat.le_refl _) _
  refine (Put_any _ A c b u hub w1 (rd_own hown1) hlen).mono ?_; rintro e w2 ⟨A2, c2, rfl, hown2, hb2⟩
  have hb : Below w.heap.size w w2 := hb1.trans (hb2.mono hb1.size)
  have hs1 := hb1.size
  clear hw1
  go_wp2_with fail
  go_ret
  refine ⟨.slice A2 (b ++ vput u).length c2, ?_, own_lower hown2 (by omega), hb.mono hbase, fun k hk _ => hb.block k hk⟩
  rw [List.length_append]; rfl

set_option maxHeartbeats 1000000 in
set_option maxRecDepth 100000 in
theorem put3_any (n : Int) (t : List UInt8) (ht : t.length ≤ 4294967296) :
    Calls Try.prog 33 #[.slice A b.length c, va ⟨3, n, t⟩] w (RetG w base (.slice A b.length c) (b ++ (vput t.length ++ t))) := by
  have hlt := vput_length64 (show t.length < 18446744073709551616 by omega)
  go_enter Try.func33, Try.ntmps33
  go_wp2_with fail
  obtain ⟨w1, hw1⟩ : ∃ w1, w1 = w.alloc (.cells #[.int .u8 3, .int .i64 n, txt t] 37) := ⟨_, rfl⟩
  have hc : w1.cell? ⟨w.heap.size, 2, none⟩ = some (txt t) := by rw [hw1]; exact (cv_block w _ _ _ _).2.2
  have hown1 : w1.ownsRow base 5 1 (.slice A b.length c) b.length (cells b) := by rw [hw1]; exact hown.alloc _
  have hb1 : Below w.heap.size w w1 := by rw [hw1]; exact (Below.refl _ _).alloc (Nat.le_refl _) _
  have hz1 : w1.heap.size = w.heap.size + 1 := by rw [hw1]; simp
  rw [← hw1]
  have F1 : ∀ w', Below w1.heap.size w1 w' → w'.cell? ⟨w.heap.size, 2, none⟩ = some (txt t) := fun w' h => cell_be hc h (by show w.heap.size < _; omega)
  clear hc hw1
  have hwr : IntKind.u64.wrap (t.length : Int) = (t.length : Int) := by rw [IntKind.wrap_u64]; omega
  refine ah_start 10 (fun w' => Below w1.heap.size w1 w') rfl (by kernel_rfl) (Below.refl _ _).drew ?_ ; intro hS
  (refine mv_val 0 (v := ?_) rfl (by kernel_rfl) (by kernel_rfl) (by kernel_rfl) (fun _ _ _ h => h) (by rfl) hS ?_ ?_; rotate_left; (focus (intro w hSw; (try dsimp only at hSw); (have f1 := F1 w hSw; have f2 := hwr); go_simp; first | done | with_reducible rfl)); simp only [Act.put, List.setIfInBounds_toArray, List.set_cons_zero, List.set_cons_succ])
  (refine mv_val 1 (v := ?_) rfl (by kernel_rfl) (by kernel_rfl) (by kernel_rfl) (fun _ _ _ h => h) (by rfl) hS ?_ ?_; rotate_left; (focus (intro w hSw; (try dsimp only at hSw); (have f1 := F1 w hSw; have f2 := hwr); go_simp; first | done | with_reducible rfl)); simp only [Act.put, List.setIfInBounds_toArray, List.set_cons_zero, List.set_cons_succ])
  (refine mv_val 2 (v := ?_) rfl (by kernel_rfl) (by kernel_rfl) (by kernel_rfl) (fun _ _ _ h => h) (by rfl) hS ?_ ?_; rotate_left; (focus (intro w hSw; (try dsimp only at hSw); (have f1 := F1 w hSw; have f2 := hwr); go_simp; first | done | with_reducible rfl)); simp only [Act.put, List.setIfInBounds_toArray, List.set_cons_zero, List.set_cons_succ])
  (refine mv_val 3 (v := ?_) rfl (by kernel_rfl) (by kernel_rfl) (by kernel_rfl) (fun _ _ _ h => h) (by rfl) hS ?_ ?_; rotate_left; (focus (intro w hSw; (try dsimp only at hSw); (have f1 := F1 w hSw; have f2 := hwr); go_simp; first | done | with_reducible rfl)); simp only [Act.put, List.setIfInBounds_toArray, List.set_cons_zero, List.set_cons_succ])
  (refine mv_val 4 (v := ?_) rfl (by kernel_rfl) (by kernel_rfl) (by kernel_rfl) (fun _ _ _ h => h) (by rfl) hS ?_ ?_; rotate_left; (focus (intro w hSw; (try dsimp only at hSw); (have f1 := F1 w hSw; have f2 := hwr); go_simp; first | done | with_reducible rfl)); simp only [Act.put, List.setIfInBounds_toArray, List.set_cons_zero, List.set_cons_succ])
  (refine mv_val 6 (v := ?_) rfl (by kernel_rfl) (by kernel_rfl) (by kernel_rfl) (fun _ _ _ h => h) (by rfl) hS ?_ ?_; rotate_left; (focus (intro w hSw; (try dsimp only at hSw); (have f1 := F1 w hSw; have f2 := hwr); go_simp; first | done | with_reducible rfl)); simp only [Act.put, List.setIfInBounds_toArray, List.set_cons_zero, List.set_cons_succ])
  (refine mv_val 7 (v := ?_) rfl (by kernel_rfl) (by kernel_rfl) (by kernel_rfl) (fun _ _ _ h => h) (by rfl) hS ?_ ?_; rotate_left; (focus (intro w hSw; (try dsimp only at hSw); (have f1 := F1 w hSw; have f2 := hwr); go_simp; first | done | with_reducible rfl)); simp only [Act.put, List.setIfInBounds_toArray, List.set_cons_zero, List.set_cons_succ])
  (refine mv_call 5 (f := ?_) (args := ?_) rfl (by kernel_rfl) (by rfl) ?_ ?_; rotate_left 2; (focus (go_simp; first | done | with_reducible rfl | (refine ⟨?_, ?_⟩ <;> with_reducible rfl))))
  refine (Put_any _ A c b t.length (by omega) _ (rd_own (own_bel hown1 hS)) hlen).mono ?_; rintro e w2 ⟨A2, c2, rfl, hown2, hb2⟩
  have hS2 : Below w1.heap.size w1 w2 := hS.trans (hb2.mono hS.size)
  refine ⟨_, rfl, hS2, ?_⟩
  have hs1 := hS.size
  replace hS := hS2
  have hs2 := hS2.size
  simp only [Act.put, List.setIfInBounds_toArray, List.set_cons_zero, List.set_cons_succ]
  refine mv_step 8 rfl (by kernel_rfl) (by rfl) (fun K hK => ?_)
  refine wp_app_str _ _ rfl hown2 rfl rfl (by rw [List.length_append]; omega) hb2.size ?_; intro v3 w3 hown3 hg3; refine hK _ _ ?_ ?_ <;> clear hK K
  · exact hS.trans ((own_below (base := w1.heap.size) (own_lower hown2 hs1) hg3 (by omega)))
  have hS3 : Below w1.heap.size w1 w3 := hS.trans ((own_below (base := w1.heap.size) (own_lower hown2 hs1) hg3 (by omega)))
  replace hS := hS3
  try simp only [Act.put, List.setIfInBounds_toArray, List.set_cons_zero, List.set_cons_succ]
  (refine mv_val 9 (v := ?_) rfl (by kernel_rfl) (by kernel_rfl) (by kernel_rfl) (fun _ _ _ h => h) (by rfl) hS ?_ ?_; rotate_left; (focus (intro w hSw; (try dsimp only at hSw); (have f1 := F1 w hSw; have f2 := hwr); go_simp; first | done | with_reducible rfl)); simp only [Act.put, List.setIfInBounds_toArray, List.set_cons_zero, List.set_cons_succ])
  refine wpAnyH_done (by kernel_rfl) ?_ _
  go_wp2_with fail
  go_ret
  have hb : Below w.heap.size w w3 := hb1.trans (hS3.mono (by omega))
  refine ⟨v3, rfl, ?_, hb.mono hbase, fun k hk _ => hb.block k hk⟩
  rw [← List.append_assoc, cells_append, List.length_append]
  exact own_lower hown3 (by omega)
end
end Go.Proofs.Ytfnbckgpldkgmaa

/- The walks of the reference's of at 0, Of, Or, And, Minus (layer 10): each answers the one list in form. For at most 10^8 spans. Printed by gen_sr4.py. -/
import Derived.Test.YtiohdacbnigpkaaSR4
import Derived.Test.YtiohdacbnigpkaaSet6
namespace Go.Proofs.Ytiohdacbnigpkaa
open Go.RowKit Go.Maps
set_option linter.unusedVariables false
set_option linter.unusedSimpArgs false


set_option maxHeartbeats 4000000 in
set_option maxRecDepth 100000 in
theorem rof0_any (B : Nat) (A A' : Option Addr) (c c' : Nat) (a b : List S2) (w : World) (ha : Rd w B A (scells a)) (hb : Rd w B A' (scells b)) (hB : B ≤ w.heap.size) (hl : a.length + b.length ≤ 100000000) :
    Calls Try.prog 53 #[.slice A a.length c, .slice A' b.length c', .int .i64 0] w (RetSs w (nf fun t => hasB a t || hasB b t)) := by
  obtain ⟨by_, HEL, hby⟩ := El_span
  have hpf := pcK_nf (endsI_asc (a ++ b)) (cut_ends a b (fun p q => p || q) rfl)
  have hal := scells_length a
  have hbl := scells_length b
  obtain ⟨T, hT⟩ : ∃ T : Int → Bool, T = fun t => hasB a t || hasB b t := ⟨_, rfl⟩
  have HT := Lib.hid (fun t => show T t = (hasB a t || hasB b t) by rw [hT])
  rw [← hT] at hpf ⊢
  have HPF := Lib.hid hpf
  clear hpf hT
  have HA := Lib.hid (fun (t : Int) (w' : World) (h : Below B w w') (h' : B ≤ w'.heap.size) => rHas_any B A c a t w' (ha.below h) h' (by omega))
  have HB := Lib.hid (fun (t : Int) (w' : World) (h : Below B w w') (h' : B ≤ w'.heap.size) => rHas_any B A' c' b t w' (hb.below h) h' (by omega))
  have hb0 := fun w' (h : Below w.heap.size w w') => hb.below (h.mono hB)
  clear hb
  have z0 : (Below w.heap.size w w) := Below.refl _ _
  obtain ⟨L, hL⟩ : ∃ L, L = a ++ b := ⟨_, rfl⟩
  have hLl : L.length ≤ 100000000 := by rw [hL, List.length_append]; exact hl
  have HL := Lib.hid hL
  rw [← hL] at HPF
  have hcl := endsI_len L
  clear hL
  go_enter Try.func53, Try.ntmps53
  go_wp2_with (at_builtin; first
    | (refine wpList_app HEL rfl _ _ rfl (World.ownsRow_nil w w.heap.size 27 2) rfl rfl ha hal (scells_one a) (by unfold maxLen; omega) (by have : (0 + a.length) * by_ ≤ 1000000000 * 64 := Nat.mul_le_mul (by omega) hby; omega) (Nat.le_refl _) ?_; intro v1 w1 hown1 hg1 _; rw [Nat.zero_add, List.nil_append] at hown1; have hb1 : Below w.heap.size w w1 := own_below (World.ownsRow_nil w w.heap.size 27 2) hg1 (Nat.le_refl _))
    | (refine wpList_app HEL rfl _ _ rfl hown1 rfl rfl (hb0 _ hb1) hbl (scells_one b) (by unfold maxLen; omega) (by have : (a.length + b.length) * by_ ≤ 1000000000 * 64 := Nat.mul_le_mul (by omega) hby; omega) hb1.size ?_; intro v2 w2 hown2 hg2 _; have hb2 : Below w.heap.size w w2 := hb1.trans (own_below hown1 hg2 hb1.size); rw [← List.length_append, ← scells_append, ← HL.out] at hown2; obtain ⟨A2, c2, rfl, hc2⟩ := own_form hown2))
  refine (rends_any w2.heap.size A2 c2 L w2 (rd_own hown2) (Nat.le_refl _) (by omega)).mono ?_; rintro e w3 ⟨A3, c3, rfl, hown3, hb3⟩
  have hb03 : Below w.heap.size w w3 := hb2.trans (hb3.mono hb2.size)
  have hbB3 : Below B w w3 := hb03.mono hB
  have hs3 := hb03.size
  obtain ⟨cl, hcl2⟩ : ∃ cl, cl = endsI L := ⟨_, rfl⟩
  rw [← hcl2] at hown3 hcl HPF ⊢
  have hrd := rd_own hown3
  obtain ⟨m, hm⟩ : ∃ m, m = cl.length := ⟨_, rfl⟩
  rw [← hm] at hcl HPF ⊢
  have HM := Lib.hid hm
  have hm9 : m ≤ 200000000 := by omega
  clear hown1 hown2 hown3 hg1 hg2 hb1 hb2 hb3 hcl2 hm hcl ha hb0 z0 hal hbl
  go_wp2_with fail
  go_loopw [8, 9] (fun v8 v9 wr => ∃ k : Nat, k ≤ m - 1 ∧ v9 = .int .i64 k ∧ wr.ownsRow w3.heap.size 27 2 v8 (pcK T cl k).length (scells (pcK T cl k)) ∧ Below w3.heap.size w3 wr) (fun _ v9 _ => m - (intOf v9).toNat)
  case atStart => exact ⟨0, by omega, rfl, World.ownsRow_nil _ _ _ _, Below.refl _ _⟩
  case round =>
    obtain ⟨k, hk, rfl, hown, hbel⟩ := hrel
    by_cases hlt : k + 1 < m
    case neg =>
      have hkk : k = m - 1 := by omega
      have hge : ¬ ((k : Int) + 1 < (m : Int)) := by omega
      rw [hkk, HPF.out] at hown
      have hown9 := own_lower hown hs3
      have hb9 := hb03.trans (hbel.mono hs3)
      have HO := Lib.hid hown9
      clear hkk hown hbel hown9
      go_wp2_with fail
      go_ret
      exact retSs_of HO.out hb9
    have hm0 := HM.out
    obtain ⟨x, hx⟩ : ∃ x, cl[k]? = some x := ⟨_, List.getElem?_eq_getElem (by omega)⟩
    obtain ⟨y, hy⟩ : ∃ y, cl[k + 1]? = some y := ⟨_, List.getElem?_eq_getElem (by omega)⟩
    have hst := pcK_succ T cl k
    rw [getD_some hx, getD_some hy] at hst
    have HST := Lib.hid hst
    obtain ⟨gc, oc, rfl, hgc, q0⟩ := rd_int hrd hx
    obtain ⟨gc', oc', hA', hgc', q1⟩ := rd_int hrd hy
    simp only [Option.some.injEq, Addr.mk.injEq, and_true] at hA'
    obtain ⟨rfl, rfl⟩ := hA'
    have hkI : (k : Int) + 1 < (m : Int) := by omega
    have hkm : k < m := by omega
    have hwk : IntKind.i64.wrap ((k : Int) + 1) = (k : Int) + 1 := by rw [IntKind.wrap_i64]; omega
    have hk0 : (0 : Int) ≤ (k : Int) + 1 := by omega
    have hkn : ((k : Int) + 1).toNat = k + 1 := by omega
    have F1 : ∀ w', Below w3.heap.size w3 w' → w'.cell? ⟨gc, oc + k, none⟩ = some (.int .i64 x) ∧ w'.cell? ⟨gc, oc + (k + 1), none⟩ = some (.int .i64 y) := fun w' hb => ⟨(hb.cell (p := ⟨gc, oc + k, none⟩) (by show gc < _; omega)).trans q0, (hb.cell (p := ⟨gc, oc + (k + 1), none⟩) (by show gc < _; omega)).trans q1⟩
    have hXl := pcK_len T cl k
    have hTx := HT.out x
    have PA := HA.out x
    have PB := HB.out x
    obtain ⟨p, hp⟩ : ∃ p, p = hasB a x := ⟨_, rfl⟩
    obtain ⟨q, hq⟩ : ∃ q, q = hasB b x := ⟨_, rfl⟩
    rw [← hp] at PA hTx
    rw [← hq] at PB hTx
    obtain ⟨X, hX⟩ : ∃ X, X = pcK T cl k := ⟨_, rfl⟩
    rw [← hX] at hown HST hXl
    have HTX := Lib.hid hTx
    have HPA := Lib.hid PA
    have HPB := Lib.hid PB
    have hbs := hbel.size
    obtain ⟨A8, c8, rfl, hc8⟩ := own_form hown
    have hbBs : ∀ w', Below w3.heap.size w3 w' → Below B w w' ∧ B ≤ w'.heap.size := fun w' h => ⟨hbB3.trans (h.mono (Nat.le_trans hB hs3)), by have := h.size; omega⟩
    clear q0 q1 hx hy hst hX hp hq PA PB hTx hm0
    go_wp2_with fail
    refine ah_start 14 (fun w' => Below w3.heap.size w3 w') rfl (by kernel_rfl) hbel.drew ?_ ; intro hS
    (refine mv_val 0 (v := ?_) rfl (by kernel_rfl) (by kernel_rfl) (by kernel_rfl) (fun _ _ _ h => h) (by rfl) hS ?_ ?_; rotate_left; (focus (intro w hSw; (try dsimp only at hSw); (have f1 := (F1 w hSw).1; have f3 := hkm); go_simp; first | done | with_reducible rfl)); simp only [Act.put, List.setIfInBounds_toArray, List.set_cons_zero, List.set_cons_succ])
    (refine mv_val 1 (v := ?_) rfl (by kernel_rfl) (by kernel_rfl) (by kernel_rfl) (fun _ _ _ h => h) (by rfl) hS ?_ ?_; rotate_left; (focus (intro w hSw; (try dsimp only at hSw); (have f1 := (F1 w hSw).1; have f3 := hkm); go_simp; first | done | with_reducible rfl)); simp only [Act.put, List.setIfInBounds_toArray, List.set_cons_zero, List.set_cons_succ])
    (refine mv_val 2 (v := ?_) rfl (by kernel_rfl) (by kernel_rfl) (by kernel_rfl) (fun _ _ _ h => h) (by rfl) hS ?_ ?_; rotate_left; (focus (intro w hSw; (try dsimp only at hSw); (have f1 := (F1 w hSw).1; have f3 := hkm); go_simp; first | done | with_reducible rfl)); simp only [Act.put, List.setIfInBounds_toArray, List.set_cons_zero, List.set_cons_succ])
    (refine mv_val 3 (v := ?_) rfl (by kernel_rfl) (by kernel_rfl) (by kernel_rfl) (fun _ _ _ h => h) (by rfl) hS ?_ ?_; rotate_left; (focus (intro w hSw; (try dsimp only at hSw); (have f1 := (F1 w hSw).1; have f3 := hkm); go_simp; first | done | with_reducible rfl)); simp only [Act.put, List.setIfInBounds_toArray, List.set_cons_zero, List.set_cons_succ])
    (refine mv_val 4 (v := ?_) rfl (by kernel_rfl) (by kernel_rfl) (by kernel_rfl) (fun _ _ _ h => h) (by rfl) hS ?_ ?_; rotate_left; (focus (intro w hSw; (try dsimp only at hSw); (have f1 := (F1 w hSw).1; have f3 := hkm); go_simp; first | done | with_reducible rfl)); simp only [Act.put, List.setIfInBounds_toArray, List.set_cons_zero, List.set_cons_succ])
    (refine mv_val 6 (v := ?_) rfl (by kernel_rfl) (by kernel_rfl) (by kernel_rfl) (fun _ _ _ h => h) (by rfl) hS ?_ ?_; rotate_left; (focus (intro w hSw; (try dsimp only at hSw); (have f1 := (F1 w hSw).1; have f3 := hkm); go_simp; first | done | with_reducible rfl)); simp only [Act.put, List.setIfInBounds_toArray, List.set_cons_zero, List.set_cons_succ])
    (refine mv_val 7 (v := ?_) rfl (by kernel_rfl) (by kernel_rfl) (by kernel_rfl) (fun _ _ _ h => h) (by rfl) hS ?_ ?_; rotate_left; (focus (intro w hSw; (try dsimp only at hSw); (have f1 := (F1 w hSw).1; have f3 := hkm); go_simp; first | done | with_reducible rfl)); simp only [Act.put, List.setIfInBounds_toArray, List.set_cons_zero, List.set_cons_succ])
    (refine mv_val 8 (v := ?_) rfl (by kernel_rfl) (by kernel_rfl) (by kernel_rfl) (fun _ _ _ h => h) (by rfl) hS ?_ ?_; rotate_left; (focus (intro w hSw; (try dsimp only at hSw); (have f1 := (F1 w hSw).1; have f3 := hkm); go_simp; first | done | with_reducible rfl)); simp only [Act.put, List.setIfInBounds_toArray, List.set_cons_zero, List.set_cons_succ])
    (refine mv_val 9 (v := ?_) rfl (by kernel_rfl) (by kernel_rfl) (by kernel_rfl) (fun _ _ _ h => h) (by rfl) hS ?_ ?_; rotate_left; (focus (intro w hSw; (try dsimp only at hSw); (have f1 := (F1 w hSw).1; have f3 := hkm); go_simp; first | done | with_reducible rfl)); simp only [Act.put, List.setIfInBounds_toArray, List.set_cons_zero, List.set_cons_succ])
    (refine mv_val 10 (v := ?_) rfl (by kernel_rfl) (by kernel_rfl) (by kernel_rfl) (fun _ _ _ h => h) (by rfl) hS ?_ ?_; rotate_left; (focus (intro w hSw; (try dsimp only at hSw); (have f1 := (F1 w hSw).1; have f3 := hkm); go_simp; first | done | with_reducible rfl)); simp only [Act.put, List.setIfInBounds_toArray, List.set_cons_zero, List.set_cons_succ])
    (refine mv_call 5 (f := ?_) (args := ?_) rfl (by kernel_rfl) (by rfl) ?_ ?_; rotate_left 2; (focus (go_simp; first | done | with_reducible rfl | (refine ⟨?_, ?_⟩ <;> with_reducible rfl))))
    refine (HPA.out wr.drew (hbBs _ hS).1 (hbBs _ hS).2).mono ?_; rintro e wq ⟨rfl, hq⟩; subst hq
    refine ⟨_, rfl, hS, ?_⟩
    simp only [Act.put, List.setIfInBounds_toArray, List.set_cons_zero, List.set_cons_succ]
    (refine mv_call 11 (f := ?_) (args := ?_) rfl (by kernel_rfl) (by rfl) ?_ ?_; rotate_left 2; (focus (go_simp; first | done | with_reducible rfl | (refine ⟨?_, ?_⟩ <;> with_reducible rfl))))
    refine (HPB.out wr.drew (hbBs _ hS).1 (hbBs _ hS).2).mono ?_; rintro e wq ⟨rfl, hq⟩; subst hq
    refine ⟨_, rfl, hS, ?_⟩
    simp only [Act.put, List.setIfInBounds_toArray, List.set_cons_zero, List.set_cons_succ]
    (refine mv_val 12 (v := ?_) rfl (by kernel_rfl) (by kernel_rfl) (by kernel_rfl) (fun _ _ _ h => h) (by rfl) hS ?_ ?_; rotate_left; (focus (intro w hSw; (try dsimp only at hSw); (have f1 := (F1 w hSw).1; have f3 := hkm); go_simp; first | done | with_reducible rfl)); simp only [Act.put, List.setIfInBounds_toArray, List.set_cons_zero, List.set_cons_succ])
    (refine mv_val 13 (v := ?_) rfl (by kernel_rfl) (by kernel_rfl) (by kernel_rfl) (fun _ _ _ h => h) (by rfl) hS ?_ ?_; rotate_left; (focus (intro w hSw; (try dsimp only at hSw); (have f1 := (F1 w hSw).1; have f3 := hkm); go_simp; first | done | with_reducible rfl)); simp only [Act.put, List.setIfInBounds_toArray, List.set_cons_zero, List.set_cons_succ])
    refine wpAnyH_done (by kernel_rfl) ?_ _
    obtain ⟨wd, hwd⟩ : ∃ wd, wd = wr.drew := ⟨_, rfl⟩
    have hownD : wd.ownsRow w3.heap.size 27 2 (.slice A8 X.length c8) X.length (scells X) := by rw [hwd]; exact hown
    rw [← hwd] at hS ⊢
    have hbD := hS
    have hzD := hbD.size
    clear hwd hown hS hbel hbs HPA HPB hbBs
    cases p <;> cases q
    · have hnx := pcStep_no (q := y) X HTX.out
      rw [← HST.out] at hnx
      have HNX := Lib.hid hnx
      have HO := Lib.hid hownD
      clear hnx HST HTX hownD
      go_wp2_with fail
      go_roundw
      case rel => exact ⟨k + 1, by omega, by go_num, by rw [HNX.out]; exact HO.out, hbD⟩
      case measure => simp [intOf]; omega
    · rcases last_cases X with rfl | ⟨o, u, rfl⟩
      · have hnx := pcStep_nil (q := y) HTX.out
        rw [← HST.out] at hnx
        have HNX := Lib.hid hnx
        clear hnx HST HTX
        simp only [List.length_nil] at hownD hXl ⊢
        go_wp2_with fail
        refine ah_start 17 (fun w' => Below w3.heap.size w3 w') rfl (by kernel_rfl) hbD.drew ?_ ; intro hS
        (refine mv_val 0 (v := ?_) rfl (by kernel_rfl) (by kernel_rfl) (by kernel_rfl) (fun _ _ _ h => h) (by rfl) hS ?_ ?_; rotate_left; (focus (intro w hSw; (try dsimp only at hSw); (have f1 := (F1 w hSw).1; have f3 := hkm); go_simp; first | done | with_reducible rfl)); simp only [Act.put, List.setIfInBounds_toArray, List.set_cons_zero, List.set_cons_succ])
        (refine mv_val 1 (v := ?_) rfl (by kernel_rfl) (by kernel_rfl) (by kernel_rfl) (fun _ _ _ h => h) (by rfl) hS ?_ ?_; rotate_left; (focus (intro w hSw; (try dsimp only at hSw); (have f1 := (F1 w hSw).1; have f3 := hkm); go_simp; first | done | with_reducible rfl)); simp only [Act.put, List.setIfInBounds_toArray, List.set_cons_zero, List.set_cons_succ])
        (refine mv_val 2 (v := ?_) rfl (by kernel_rfl) (by kernel_rfl) (by kernel_rfl) (fun _ _ _ h => h) (by rfl) hS ?_ ?_; rotate_left; (focus (intro w hSw; (try dsimp only at hSw); (have f1 := (F1 w hSw).1; have f3 := hkm); go_simp; first | done | with_reducible rfl)); simp only [Act.put, List.setIfInBounds_toArray, List.set_cons_zero, List.set_cons_succ])
        (refine mv_val 3 (v := ?_) rfl (by kernel_rfl) (by kernel_rfl) (by kernel_rfl) (fun _ _ _ h => h) (by rfl) hS ?_ ?_; rotate_left; (focus (intro w hSw; (try dsimp only at hSw); (have f1 := (F1 w hSw).1; have f3 := hkm); go_simp; first | done | with_reducible rfl)); simp only [Act.put, List.setIfInBounds_toArray, List.set_cons_zero, List.set_cons_succ])
        (refine mv_skip 4 rfl (by kernel_rfl) (by kernel_rfl) (by kernel_rfl) (fun _ _ _ h => h) (by rfl) hS ?_; simp only [Act.put, List.setIfInBounds_toArray, List.set_cons_zero, List.set_cons_succ])
        (refine mv_skip 5 rfl (by kernel_rfl) (by kernel_rfl) (by kernel_rfl) (fun _ _ _ h => h) (by rfl) hS ?_; simp only [Act.put, List.setIfInBounds_toArray, List.set_cons_zero, List.set_cons_succ])
        (refine mv_skip 6 rfl (by kernel_rfl) (by kernel_rfl) (by kernel_rfl) (fun _ _ _ h => h) (by rfl) hS ?_; simp only [Act.put, List.setIfInBounds_toArray, List.set_cons_zero, List.set_cons_succ])
        (refine mv_skip 7 rfl (by kernel_rfl) (by kernel_rfl) (by kernel_rfl) (fun _ _ _ h => h) (by rfl) hS ?_; simp only [Act.put, List.setIfInBounds_toArray, List.set_cons_zero, List.set_cons_succ])
        (refine mv_skip 8 rfl (by kernel_rfl) (by kernel_rfl) (by kernel_rfl) (fun _ _ _ h => h) (by rfl) hS ?_; simp only [Act.put, List.setIfInBounds_toArray, List.set_cons_zero, List.set_cons_succ])
        (refine mv_skip 9 rfl (by kernel_rfl) (by kernel_rfl) (by kernel_rfl) (fun _ _ _ h => h) (by rfl) hS ?_; simp only [Act.put, List.setIfInBounds_toArray, List.set_cons_zero, List.set_cons_succ])
        (refine mv_skip 10 rfl (by kernel_rfl) (by kernel_rfl) (by kernel_rfl) (fun _ _ _ h => h) (by rfl) hS ?_; simp only [Act.put, List.setIfInBounds_toArray, List.set_cons_zero, List.set_cons_succ])
        (refine mv_skip 11 rfl (by kernel_rfl) (by kernel_rfl) (by kernel_rfl) (fun _ _ _ h => h) (by rfl) hS ?_; simp only [Act.put, List.setIfInBounds_toArray, List.set_cons_zero, List.set_cons_succ])
        (refine mv_skip 12 rfl (by kernel_rfl) (by kernel_rfl) (by kernel_rfl) (fun _ _ _ h => h) (by rfl) hS ?_; simp only [Act.put, List.setIfInBounds_toArray, List.set_cons_zero, List.set_cons_succ])
        (refine mv_skip 13 rfl (by kernel_rfl) (by kernel_rfl) (by kernel_rfl) (fun _ _ _ h => h) (by rfl) hS ?_; simp only [Act.put, List.setIfInBounds_toArray, List.set_cons_zero, List.set_cons_succ])
        (refine mv_skip 14 rfl (by kernel_rfl) (by kernel_rfl) (by kernel_rfl) (fun _ _ _ h => h) (by rfl) hS ?_; simp only [Act.put, List.setIfInBounds_toArray, List.set_cons_zero, List.set_cons_succ])
        (refine mv_skip 15 rfl (by kernel_rfl) (by kernel_rfl) (by kernel_rfl) (fun _ _ _ h => h) (by rfl) hS ?_; simp only [Act.put, List.setIfInBounds_toArray, List.set_cons_zero, List.set_cons_succ])
        (refine mv_val 16 (v := ?_) rfl (by kernel_rfl) (by kernel_rfl) (by kernel_rfl) (fun _ _ _ h => h) (by rfl) hS ?_ ?_; rotate_left; (focus (intro w hSw; (try dsimp only at hSw); (have f1 := (F1 w hSw).1; have f3 := hkm); go_simp; first | done | with_reducible rfl)); simp only [Act.put, List.setIfInBounds_toArray, List.set_cons_zero, List.set_cons_succ])
        refine wpAnyH_done (by kernel_rfl) ?_ _
        obtain ⟨we, hwe⟩ : ∃ we, we = wd.drew := ⟨_, rfl⟩
        have hownE : we.ownsRow w3.heap.size 27 2 (.slice A8 0 c8) 0 (scells []) := by rw [hwe]; exact hownD
        have hbE : Below w3.heap.size w3 we := by rw [hwe]; exact hbD.drew
        have hzE := hbE.size
        rw [← hwe]
        clear hwe hownD hbD hS
        go_wp2_with fail
        refine ah_start 14 (fun w' => Below w3.heap.size w3 w') rfl (by kernel_rfl) hbE.drew ?_ ; intro hS
        (refine mv_val 0 (v := ?_) rfl (by kernel_rfl) (by kernel_rfl) (by kernel_rfl) (fun _ _ _ h => h) (by rfl) hS ?_ ?_; rotate_left; (focus (intro w hSw; (try dsimp only at hSw); (have f1 := (F1 w hSw).1; have f2 := (F1 w hSw).2; have f3 := hkm; have f4 := hkI; have f5 := hlt; have f6 := hwk; have f7 := hk0; have f8 := hkn); go_simp; first | done | with_reducible rfl)); simp only [Act.put, List.setIfInBounds_toArray, List.set_cons_zero, List.set_cons_succ])
        (refine mv_val 1 (v := ?_) rfl (by kernel_rfl) (by kernel_rfl) (by kernel_rfl) (fun _ _ _ h => h) (by rfl) hS ?_ ?_; rotate_left; (focus (intro w hSw; (try dsimp only at hSw); (have f1 := (F1 w hSw).1; have f2 := (F1 w hSw).2; have f3 := hkm; have f4 := hkI; have f5 := hlt; have f6 := hwk; have f7 := hk0; have f8 := hkn); go_simp; first | done | with_reducible rfl)); simp only [Act.put, List.setIfInBounds_toArray, List.set_cons_zero, List.set_cons_succ])
        (refine mv_val 2 (v := ?_) rfl (by kernel_rfl) (by kernel_rfl) (by kernel_rfl) (fun _ _ _ h => h) (by rfl) hS ?_ ?_; rotate_left; (focus (intro w hSw; (try dsimp only at hSw); (have f1 := (F1 w hSw).1; have f2 := (F1 w hSw).2; have f3 := hkm; have f4 := hkI; have f5 := hlt; have f6 := hwk; have f7 := hk0; have f8 := hkn); go_simp; first | done | with_reducible rfl)); simp only [Act.put, List.setIfInBounds_toArray, List.set_cons_zero, List.set_cons_succ])
        (refine mv_val 3 (v := ?_) rfl (by kernel_rfl) (by kernel_rfl) (by kernel_rfl) (fun _ _ _ h => h) (by rfl) hS ?_ ?_; rotate_left; (focus (intro w hSw; (try dsimp only at hSw); (have f1 := (F1 w hSw).1; have f2 := (F1 w hSw).2; have f3 := hkm; have f4 := hkI; have f5 := hlt; have f6 := hwk; have f7 := hk0; have f8 := hkn); go_simp; first | done | with_reducible rfl)); simp only [Act.put, List.setIfInBounds_toArray, List.set_cons_zero, List.set_cons_succ])
        (refine mv_val 4 (v := ?_) rfl (by kernel_rfl) (by kernel_rfl) (by kernel_rfl) (fun _ _ _ h => h) (by rfl) hS ?_ ?_; rotate_left; (focus (intro w hSw; (try dsimp only at hSw); (have f1 := (F1 w hSw).1; have f2 := (F1 w hSw).2; have f3 := hkm; have f4 := hkI; have f5 := hlt; have f6 := hwk; have f7 := hk0; have f8 := hkn); go_simp; first | done | with_reducible rfl)); simp only [Act.put, List.setIfInBounds_toArray, List.set_cons_zero, List.set_cons_succ])
        (refine mv_val 5 (v := ?_) rfl (by kernel_rfl) (by kernel_rfl) (by kernel_rfl) (fun _ _ _ h => h) (by rfl) hS ?_ ?_; rotate_left; (focus (intro w hSw; (try dsimp only at hSw); (have f1 := (F1 w hSw).1; have f2 := (F1 w hSw).2; have f3 := hkm; have f4 := hkI; have f5 := hlt; have f6 := hwk; have f7 := hk0; have f8 := hkn); go_simp; first | done | with_reducible rfl)); simp only [Act.put, List.setIfInBounds_toArray, List.set_cons_zero, List.set_cons_succ])
        (refine mv_val 6 (v := ?_) rfl (by kernel_rfl) (by kernel_rfl) (by kernel_rfl) (fun _ _ _ h => h) (by rfl) hS ?_ ?_; rotate_left; (focus (intro w hSw; (try dsimp only at hSw); (have f1 := (F1 w hSw).1; have f2 := (F1 w hSw).2; have f3 := hkm; have f4 := hkI; have f5 := hlt; have f6 := hwk; have f7 := hk0; have f8 := hkn); go_simp; first | done | with_reducible rfl)); simp only [Act.put, List.setIfInBounds_toArray, List.set_cons_zero, List.set_cons_succ])
        (refine mv_val 7 (v := ?_) rfl (by kernel_rfl) (by kernel_rfl) (by kernel_rfl) (fun _ _ _ h => h) (by rfl) hS ?_ ?_; rotate_left; (focus (intro w hSw; (try dsimp only at hSw); (have f1 := (F1 w hSw).1; have f2 := (F1 w hSw).2; have f3 := hkm; have f4 := hkI; have f5 := hlt; have f6 := hwk; have f7 := hk0; have f8 := hkn); go_simp; first | done | with_reducible rfl)); simp only [Act.put, List.setIfInBounds_toArray, List.set_cons_zero, List.set_cons_succ])
        (refine mv_val 8 (v := ?_) rfl (by kernel_rfl) (by kernel_rfl) (by kernel_rfl) (fun _ _ _ h => h) (by rfl) hS ?_ ?_; rotate_left; (focus (intro w hSw; (try dsimp only at hSw); (have f1 := (F1 w hSw).1; have f2 := (F1 w hSw).2; have f3 := hkm; have f4 := hkI; have f5 := hlt; have f6 := hwk; have f7 := hk0; have f8 := hkn); go_simp; first | done | with_reducible rfl)); simp only [Act.put, List.setIfInBounds_toArray, List.set_cons_zero, List.set_cons_succ])
        (refine mv_val 9 (v := ?_) rfl (by kernel_rfl) (by kernel_rfl) (by kernel_rfl) (fun _ _ _ h => h) (by rfl) hS ?_ ?_; rotate_left; (focus (intro w hSw; (try dsimp only at hSw); (have f1 := (F1 w hSw).1; have f2 := (F1 w hSw).2; have f3 := hkm; have f4 := hkI; have f5 := hlt; have f6 := hwk; have f7 := hk0; have f8 := hkn); go_simp; first | done | with_reducible rfl)); simp only [Act.put, List.setIfInBounds_toArray, List.set_cons_zero, List.set_cons_succ])
        (refine mv_val 10 (v := ?_) rfl (by kernel_rfl) (by kernel_rfl) (by kernel_rfl) (fun _ _ _ h => h) (by rfl) hS ?_ ?_; rotate_left; (focus (intro w hSw; (try dsimp only at hSw); (have f1 := (F1 w hSw).1; have f2 := (F1 w hSw).2; have f3 := hkm; have f4 := hkI; have f5 := hlt; have f6 := hwk; have f7 := hk0; have f8 := hkn); go_simp; first | done | with_reducible rfl)); simp only [Act.put, List.setIfInBounds_toArray, List.set_cons_zero, List.set_cons_succ])
        refine mv_step 11 rfl (by kernel_rfl) (by rfl) (fun K hK => ?_)
        go_simp
        refine hK _ _ ?_ ?_ <;> clear hK K
        · exact (hbE.alloc hzE _).drew
        try simp only [Act.put, List.setIfInBounds_toArray, List.set_cons_zero, List.set_cons_succ]
        refine mv_step 12 rfl (by kernel_rfl) (by rfl) (fun K hK => ?_)
        refine wp_app HEL _ _ rfl (by exact hownE.alloc _) rfl rfl (by exact sc_two (x, y) rfl) rfl (sc_one _) (by unfold maxLen; omega) (by have : (0 + 1) * by_ ≤ 1 * 64 := Nat.mul_le_mul (by omega) hby; omega) (by show w3.heap.size ≤ (we.alloc _).heap.size; simp; omega) ?_; intro v7 w7 hown7 hg7 _; refine hK _ _ ?_ ?_ <;> clear hK K
        · exact (hbE.alloc hzE _).drew.trans (own_below (by exact hownE.alloc _) hg7 (by show w3.heap.size ≤ (we.alloc _).heap.size; simp; omega))
        have hb7 : Below w3.heap.size w3 w7 := (hbE.alloc hzE _).drew.trans (own_below (by exact hownE.alloc _) hg7 (by show w3.heap.size ≤ (we.alloc _).heap.size; simp; omega))
        replace hS := hb7
        try simp only [Act.put, List.setIfInBounds_toArray, List.set_cons_zero, List.set_cons_succ]
        (refine mv_val 13 (v := ?_) rfl (by kernel_rfl) (by kernel_rfl) (by kernel_rfl) (fun _ _ _ h => h) (by rfl) hS ?_ ?_; rotate_left; (focus (intro w hSw; (try dsimp only at hSw); (have f1 := (F1 w hSw).1; have f2 := (F1 w hSw).2; have f3 := hkm; have f4 := hkI; have f5 := hlt; have f6 := hwk; have f7 := hk0; have f8 := hkn); go_simp; first | done | with_reducible rfl)); simp only [Act.put, List.setIfInBounds_toArray, List.set_cons_zero, List.set_cons_succ])
        refine wpAnyH_done (by kernel_rfl) ?_ _
        go_wp2_with fail
        go_roundw
        case rel => exact ⟨k + 1, by omega, by go_num, by rw [HNX.out]; exact hown7, hb7⟩
        case measure => simp [intOf]; omega
      · have hol : (o ++ [u]).length = o.length + 1 := by simp
        rw [hol] at hownD hXl ⊢
        obtain ⟨j, hj⟩ : ∃ j, j = o.length := ⟨_, rfl⟩
        rw [← hj] at hownD hXl ⊢
        obtain ⟨g, cap, hA, hg1, hg2⟩ := own_some hownD (by omega)
        simp only [Value.slice.injEq, true_and] at hA
        obtain ⟨rfl, rfl⟩ := hA
        have hbu : (o ++ [u])[j]? = some u := by rw [hj]; simp
        obtain ⟨p0, p1⟩ := scells_at _ _ _ hbu
        have hget := (scells_length (o ++ [u]))
        have c1 := hownD.cellAt (j * 2 + 1) (by omega)
        rw [p1] at c1
        have G1 : ∀ w', Below wd.heap.size wd w' → w'.cell? ⟨g, j * 2 + 1, none⟩ = some (.int .i64 u.2) := fun w' h => cell_be c1 h hg2
        have F2 : ∀ w', Below wd.heap.size wd w' → w'.cell? ⟨gc, oc + k, none⟩ = some (.int .i64 x) ∧ w'.cell? ⟨gc, oc + (k + 1), none⟩ = some (.int .i64 y) := fun w' h => F1 w' (hbD.trans (h.mono hzD))
        have hwj : IntKind.i64.wrap (j : Int) = (j : Int) := by rw [IntKind.wrap_i64]; omega
        have hjI : (0 : Int) < (j : Int) + 1 := by omega
        have hjJ : (j : Int) < (j : Int) + 1 := by omega
        have hnx := pcStep_last (q := y) o u HTX.out
        rw [← HST.out] at hnx
        have HNX := Lib.hid hnx
        have HBU := Lib.hid hbu
        have HJ := Lib.hid hj
        clear HST HTX p0 p1 hget hbu hj hol hnx
        go_wp2_with fail
        refine ah_start 17 (fun w' => Below wd.heap.size wd w') rfl (by kernel_rfl) (Below.refl _ _).drew ?_ ; intro hS
        (refine mv_val 0 (v := ?_) rfl (by kernel_rfl) (by kernel_rfl) (by kernel_rfl) (fun _ _ _ h => h) (by rfl) hS ?_ ?_; rotate_left; (focus (intro w hSw; (try dsimp only at hSw); (have f1 := (F2 w hSw).1; have f2 := G1 w hSw; have f3 := hwj; have f4 := hjI; have f5 := hjJ; have f6 := hkm); go_simp; first | done | with_reducible rfl)); simp only [Act.put, List.setIfInBounds_toArray, List.set_cons_zero, List.set_cons_succ])
        (refine mv_val 1 (v := ?_) rfl (by kernel_rfl) (by kernel_rfl) (by kernel_rfl) (fun _ _ _ h => h) (by rfl) hS ?_ ?_; rotate_left; (focus (intro w hSw; (try dsimp only at hSw); (have f1 := (F2 w hSw).1; have f2 := G1 w hSw; have f3 := hwj; have f4 := hjI; have f5 := hjJ; have f6 := hkm); go_simp; first | done | with_reducible rfl)); simp only [Act.put, List.setIfInBounds_toArray, List.set_cons_zero, List.set_cons_succ])
        (refine mv_val 2 (v := ?_) rfl (by kernel_rfl) (by kernel_rfl) (by kernel_rfl) (fun _ _ _ h => h) (by rfl) hS ?_ ?_; rotate_left; (focus (intro w hSw; (try dsimp only at hSw); (have f1 := (F2 w hSw).1; have f2 := G1 w hSw; have f3 := hwj; have f4 := hjI; have f5 := hjJ; have f6 := hkm); go_simp; first | done | with_reducible rfl)); simp only [Act.put, List.setIfInBounds_toArray, List.set_cons_zero, List.set_cons_succ])
        (refine mv_val 3 (v := ?_) rfl (by kernel_rfl) (by kernel_rfl) (by kernel_rfl) (fun _ _ _ h => h) (by rfl) hS ?_ ?_; rotate_left; (focus (intro w hSw; (try dsimp only at hSw); (have f1 := (F2 w hSw).1; have f2 := G1 w hSw; have f3 := hwj; have f4 := hjI; have f5 := hjJ; have f6 := hkm); go_simp; first | done | with_reducible rfl)); simp only [Act.put, List.setIfInBounds_toArray, List.set_cons_zero, List.set_cons_succ])
        (refine mv_val 4 (v := ?_) rfl (by kernel_rfl) (by kernel_rfl) (by kernel_rfl) (fun _ _ _ h => h) (by rfl) hS ?_ ?_; rotate_left; (focus (intro w hSw; (try dsimp only at hSw); (have f1 := (F2 w hSw).1; have f2 := G1 w hSw; have f3 := hwj; have f4 := hjI; have f5 := hjJ; have f6 := hkm); go_simp; first | done | with_reducible rfl)); simp only [Act.put, List.setIfInBounds_toArray, List.set_cons_zero, List.set_cons_succ])
        (refine mv_val 5 (v := ?_) rfl (by kernel_rfl) (by kernel_rfl) (by kernel_rfl) (fun _ _ _ h => h) (by rfl) hS ?_ ?_; rotate_left; (focus (intro w hSw; (try dsimp only at hSw); (have f1 := (F2 w hSw).1; have f2 := G1 w hSw; have f3 := hwj; have f4 := hjI; have f5 := hjJ; have f6 := hkm); go_simp; first | done | with_reducible rfl)); simp only [Act.put, List.setIfInBounds_toArray, List.set_cons_zero, List.set_cons_succ])
        (refine mv_val 6 (v := ?_) rfl (by kernel_rfl) (by kernel_rfl) (by kernel_rfl) (fun _ _ _ h => h) (by rfl) hS ?_ ?_; rotate_left; (focus (intro w hSw; (try dsimp only at hSw); (have f1 := (F2 w hSw).1; have f2 := G1 w hSw; have f3 := hwj; have f4 := hjI; have f5 := hjJ; have f6 := hkm); go_simp; first | done | with_reducible rfl)); simp only [Act.put, List.setIfInBounds_toArray, List.set_cons_zero, List.set_cons_succ])
        (refine mv_val 7 (v := ?_) rfl (by kernel_rfl) (by kernel_rfl) (by kernel_rfl) (fun _ _ _ h => h) (by rfl) hS ?_ ?_; rotate_left; (focus (intro w hSw; (try dsimp only at hSw); (have f1 := (F2 w hSw).1; have f2 := G1 w hSw; have f3 := hwj; have f4 := hjI; have f5 := hjJ; have f6 := hkm); go_simp; first | done | with_reducible rfl)); simp only [Act.put, List.setIfInBounds_toArray, List.set_cons_zero, List.set_cons_succ])
        (refine mv_val 8 (v := ?_) rfl (by kernel_rfl) (by kernel_rfl) (by kernel_rfl) (fun _ _ _ h => h) (by rfl) hS ?_ ?_; rotate_left; (focus (intro w hSw; (try dsimp only at hSw); (have f1 := (F2 w hSw).1; have f2 := G1 w hSw; have f3 := hwj; have f4 := hjI; have f5 := hjJ; have f6 := hkm); go_simp; first | done | with_reducible rfl)); simp only [Act.put, List.setIfInBounds_toArray, List.set_cons_zero, List.set_cons_succ])
        (refine mv_val 9 (v := ?_) rfl (by kernel_rfl) (by kernel_rfl) (by kernel_rfl) (fun _ _ _ h => h) (by rfl) hS ?_ ?_; rotate_left; (focus (intro w hSw; (try dsimp only at hSw); (have f1 := (F2 w hSw).1; have f2 := G1 w hSw; have f3 := hwj; have f4 := hjI; have f5 := hjJ; have f6 := hkm); go_simp; first | done | with_reducible rfl)); simp only [Act.put, List.setIfInBounds_toArray, List.set_cons_zero, List.set_cons_succ])
        (refine mv_val 10 (v := ?_) rfl (by kernel_rfl) (by kernel_rfl) (by kernel_rfl) (fun _ _ _ h => h) (by rfl) hS ?_ ?_; rotate_left; (focus (intro w hSw; (try dsimp only at hSw); (have f1 := (F2 w hSw).1; have f2 := G1 w hSw; have f3 := hwj; have f4 := hjI; have f5 := hjJ; have f6 := hkm); go_simp; first | done | with_reducible rfl)); simp only [Act.put, List.setIfInBounds_toArray, List.set_cons_zero, List.set_cons_succ])
        (refine mv_val 11 (v := ?_) rfl (by kernel_rfl) (by kernel_rfl) (by kernel_rfl) (fun _ _ _ h => h) (by rfl) hS ?_ ?_; rotate_left; (focus (intro w hSw; (try dsimp only at hSw); (have f1 := (F2 w hSw).1; have f2 := G1 w hSw; have f3 := hwj; have f4 := hjI; have f5 := hjJ; have f6 := hkm); go_simp; first | done | with_reducible rfl)); simp only [Act.put, List.setIfInBounds_toArray, List.set_cons_zero, List.set_cons_succ])
        (refine mv_val 12 (v := ?_) rfl (by kernel_rfl) (by kernel_rfl) (by kernel_rfl) (fun _ _ _ h => h) (by rfl) hS ?_ ?_; rotate_left; (focus (intro w hSw; (try dsimp only at hSw); (have f1 := (F2 w hSw).1; have f2 := G1 w hSw; have f3 := hwj; have f4 := hjI; have f5 := hjJ; have f6 := hkm); go_simp; first | done | with_reducible rfl)); simp only [Act.put, List.setIfInBounds_toArray, List.set_cons_zero, List.set_cons_succ])
        (refine mv_val 13 (v := ?_) rfl (by kernel_rfl) (by kernel_rfl) (by kernel_rfl) (fun _ _ _ h => h) (by rfl) hS ?_ ?_; rotate_left; (focus (intro w hSw; (try dsimp only at hSw); (have f1 := (F2 w hSw).1; have f2 := G1 w hSw; have f3 := hwj; have f4 := hjI; have f5 := hjJ; have f6 := hkm); go_simp; first | done | with_reducible rfl)); simp only [Act.put, List.setIfInBounds_toArray, List.set_cons_zero, List.set_cons_succ])
        (refine mv_val 14 (v := ?_) rfl (by kernel_rfl) (by kernel_rfl) (by kernel_rfl) (fun _ _ _ h => h) (by rfl) hS ?_ ?_; rotate_left; (focus (intro w hSw; (try dsimp only at hSw); (have f1 := (F2 w hSw).1; have f2 := G1 w hSw; have f3 := hwj; have f4 := hjI; have f5 := hjJ; have f6 := hkm); go_simp; first | done | with_reducible rfl)); simp only [Act.put, List.setIfInBounds_toArray, List.set_cons_zero, List.set_cons_succ])
        (refine mv_val 15 (v := ?_) rfl (by kernel_rfl) (by kernel_rfl) (by kernel_rfl) (fun _ _ _ h => h) (by rfl) hS ?_ ?_; rotate_left; (focus (intro w hSw; (try dsimp only at hSw); (have f1 := (F2 w hSw).1; have f2 := G1 w hSw; have f3 := hwj; have f4 := hjI; have f5 := hjJ; have f6 := hkm); go_simp; first | done | with_reducible rfl)); simp only [Act.put, List.setIfInBounds_toArray, List.set_cons_zero, List.set_cons_succ])
        (refine mv_val 16 (v := ?_) rfl (by kernel_rfl) (by kernel_rfl) (by kernel_rfl) (fun _ _ _ h => h) (by rfl) hS ?_ ?_; rotate_left; (focus (intro w hSw; (try dsimp only at hSw); (have f1 := (F2 w hSw).1; have f2 := G1 w hSw; have f3 := hwj; have f4 := hjI; have f5 := hjJ; have f6 := hkm); go_simp; first | done | with_reducible rfl)); simp only [Act.put, List.setIfInBounds_toArray, List.set_cons_zero, List.set_cons_succ])
        refine wpAnyH_done (by kernel_rfl) ?_ _
        obtain ⟨we, hwe⟩ : ∃ we, we = wd.drew := ⟨_, rfl⟩
        have hownE : we.ownsRow w3.heap.size 27 2 (.slice (some ⟨g, 0, none⟩) (j + 1) c8) (j + 1) (scells (o ++ [u])) := by rw [hwe]; exact hownD
        have hbE : Below w3.heap.size w3 we := by rw [hwe]; exact hbD.drew
        have hzE := hbE.size
        have e2 : we.cell? ⟨g, j * 2 + 1, none⟩ = some (.int .i64 u.2) := by rw [hwe]; exact c1
        have e0 := (F1 _ hbE).1
        have e1 := (F1 _ hbE).2
        rw [← hwe]
        clear hwe hownD hbD hS c1 G1 F2
        by_cases hle : u.2 = x
        · have hnx := HNX.out
          rw [if_pos hle] at hnx
          have HNX3 := Lib.hid hnx
          have hbq : (u.2 == x) = true := by simp [hle]
          have hfr := hownE.frozenAt (j * 2 + 1)
          have hset := Lib.hid (own_setTo hownE HBU.out y)
          clear hnx HNX hle
          go_wp2_with fail
          go_roundw
          case rel =>
            refine ⟨k + 1, by omega, by go_num, ?_, hbE.setCell (p := ⟨g, j * 2 + 1, none⟩) hg1 _⟩
            have e : o ++ [(u.1, y)] = (o ++ [u]).set j (u.1, y) := by rw [HJ.out]; simp
            rw [HNX3.out, e, List.length_set, List.length_append, ← HJ.out]
            exact hset.out
          case measure => simp [intOf]; omega
        · have hnx := HNX.out
          rw [if_neg hle] at hnx
          have HNX3 := Lib.hid hnx
          have hbq : (u.2 == x) = false := by simpa using hle
          clear hnx HNX hle
          go_wp2_with fail
          refine ah_start 14 (fun w' => Below w3.heap.size w3 w') rfl (by kernel_rfl) hbE.drew ?_ ; intro hS
          (refine mv_val 0 (v := ?_) rfl (by kernel_rfl) (by kernel_rfl) (by kernel_rfl) (fun _ _ _ h => h) (by rfl) hS ?_ ?_; rotate_left; (focus (intro w hSw; (try dsimp only at hSw); (have f1 := (F1 w hSw).1; have f2 := (F1 w hSw).2; have f3 := hkm; have f4 := hkI; have f5 := hlt; have f6 := hwk; have f7 := hk0; have f8 := hkn); go_simp; first | done | with_reducible rfl)); simp only [Act.put, List.setIfInBounds_toArray, List.set_cons_zero, List.set_cons_succ])
          (refine mv_val 1 (v := ?_) rfl (by kernel_rfl) (by kernel_rfl) (by kernel_rfl) (fun _ _ _ h => h) (by rfl) hS ?_ ?_; rotate_left; (focus (intro w hSw; (try dsimp only at hSw); (have f1 := (F1 w hSw).1; have f2 := (F1 w hSw).2; have f3 := hkm; have f4 := hkI; have f5 := hlt; have f6 := hwk; have f7 := hk0; have f8 := hkn); go_simp; first | done | with_reducible rfl)); simp only [Act.put, List.setIfInBounds_toArray, List.set_cons_zero, List.set_cons_succ])
          (refine mv_val 2 (v := ?_) rfl (by kernel_rfl) (by kernel_rfl) (by kernel_rfl) (fun _ _ _ h => h) (by rfl) hS ?_ ?_; rotate_left; (focus (intro w hSw; (try dsimp only at hSw); (have f1 := (F1 w hSw).1; have f2 := (F1 w hSw).2; have f3 := hkm; have f4 := hkI; have f5 := hlt; have f6 := hwk; have f7 := hk0; have f8 := hkn); go_simp; first | done | with_reducible rfl)); simp only [Act.put, List.setIfInBounds_toArray, List.set_cons_zero, List.set_cons_succ])
          (refine mv_val 3 (v := ?_) rfl (by kernel_rfl) (by kernel_rfl) (by kernel_rfl) (fun _ _ _ h => h) (by rfl) hS ?_ ?_; rotate_left; (focus (intro w hSw; (try dsimp only at hSw); (have f1 := (F1 w hSw).1; have f2 := (F1 w hSw).2; have f3 := hkm; have f4 := hkI; have f5 := hlt; have f6 := hwk; have f7 := hk0; have f8 := hkn); go_simp; first | done | with_reducible rfl)); simp only [Act.put, List.setIfInBounds_toArray, List.set_cons_zero, List.set_cons_succ])
          (refine mv_val 4 (v := ?_) rfl (by kernel_rfl) (by kernel_rfl) (by kernel_rfl) (fun _ _ _ h => h) (by rfl) hS ?_ ?_; rotate_left; (focus (intro w hSw; (try dsimp only at hSw); (have f1 := (F1 w hSw).1; have f2 := (F1 w hSw).2; have f3 := hkm; have f4 := hkI; have f5 := hlt; have f6 := hwk; have f7 := hk0; have f8 := hkn); go_simp; first | done | with_reducible rfl)); simp only [Act.put, List.setIfInBounds_toArray, List.set_cons_zero, List.set_cons_succ])
          (refine mv_val 5 (v := ?_) rfl (by kernel_rfl) (by kernel_rfl) (by kernel_rfl) (fun _ _ _ h => h) (by rfl) hS ?_ ?_; rotate_left; (focus (intro w hSw; (try dsimp only at hSw); (have f1 := (F1 w hSw).1; have f2 := (F1 w hSw).2; have f3 := hkm; have f4 := hkI; have f5 := hlt; have f6 := hwk; have f7 := hk0; have f8 := hkn); go_simp; first | done | with_reducible rfl)); simp only [Act.put, List.setIfInBounds_toArray, List.set_cons_zero, List.set_cons_succ])
          (refine mv_val 6 (v := ?_) rfl (by kernel_rfl) (by kernel_rfl) (by kernel_rfl) (fun _ _ _ h => h) (by rfl) hS ?_ ?_; rotate_left; (focus (intro w hSw; (try dsimp only at hSw); (have f1 := (F1 w hSw).1; have f2 := (F1 w hSw).2; have f3 := hkm; have f4 := hkI; have f5 := hlt; have f6 := hwk; have f7 := hk0; have f8 := hkn); go_simp; first | done | with_reducible rfl)); simp only [Act.put, List.setIfInBounds_toArray, List.set_cons_zero, List.set_cons_succ])
          (refine mv_val 7 (v := ?_) rfl (by kernel_rfl) (by kernel_rfl) (by kernel_rfl) (fun _ _ _ h => h) (by rfl) hS ?_ ?_; rotate_left; (focus (intro w hSw; (try dsimp only at hSw); (have f1 := (F1 w hSw).1; have f2 := (F1 w hSw).2; have f3 := hkm; have f4 := hkI; have f5 := hlt; have f6 := hwk; have f7 := hk0; have f8 := hkn); go_simp; first | done | with_reducible rfl)); simp only [Act.put, List.setIfInBounds_toArray, List.set_cons_zero, List.set_cons_succ])
          (refine mv_val 8 (v := ?_) rfl (by kernel_rfl) (by kernel_rfl) (by kernel_rfl) (fun _ _ _ h => h) (by rfl) hS ?_ ?_; rotate_left; (focus (intro w hSw; (try dsimp only at hSw); (have f1 := (F1 w hSw).1; have f2 := (F1 w hSw).2; have f3 := hkm; have f4 := hkI; have f5 := hlt; have f6 := hwk; have f7 := hk0; have f8 := hkn); go_simp; first | done | with_reducible rfl)); simp only [Act.put, List.setIfInBounds_toArray, List.set_cons_zero, List.set_cons_succ])
          (refine mv_val 9 (v := ?_) rfl (by kernel_rfl) (by kernel_rfl) (by kernel_rfl) (fun _ _ _ h => h) (by rfl) hS ?_ ?_; rotate_left; (focus (intro w hSw; (try dsimp only at hSw); (have f1 := (F1 w hSw).1; have f2 := (F1 w hSw).2; have f3 := hkm; have f4 := hkI; have f5 := hlt; have f6 := hwk; have f7 := hk0; have f8 := hkn); go_simp; first | done | with_reducible rfl)); simp only [Act.put, List.setIfInBounds_toArray, List.set_cons_zero, List.set_cons_succ])
          (refine mv_val 10 (v := ?_) rfl (by kernel_rfl) (by kernel_rfl) (by kernel_rfl) (fun _ _ _ h => h) (by rfl) hS ?_ ?_; rotate_left; (focus (intro w hSw; (try dsimp only at hSw); (have f1 := (F1 w hSw).1; have f2 := (F1 w hSw).2; have f3 := hkm; have f4 := hkI; have f5 := hlt; have f6 := hwk; have f7 := hk0; have f8 := hkn); go_simp; first | done | with_reducible rfl)); simp only [Act.put, List.setIfInBounds_toArray, List.set_cons_zero, List.set_cons_succ])
          refine mv_step 11 rfl (by kernel_rfl) (by rfl) (fun K hK => ?_)
          go_simp
          refine hK _ _ ?_ ?_ <;> clear hK K
          · exact (hbE.alloc hzE _).drew
          try simp only [Act.put, List.setIfInBounds_toArray, List.set_cons_zero, List.set_cons_succ]
          refine mv_step 12 rfl (by kernel_rfl) (by rfl) (fun K hK => ?_)
          refine wp_app HEL _ _ rfl (by exact hownE.alloc _) rfl rfl (by exact sc_two (x, y) rfl) rfl (sc_one _) (by unfold maxLen; omega) (by have : (j + 1 + 1) * by_ ≤ 1000000001 * 64 := Nat.mul_le_mul (by omega) hby; omega) (by show w3.heap.size ≤ (we.alloc _).heap.size; simp; omega) ?_; intro v7 w7 hown7 hg7 _; refine hK _ _ ?_ ?_ <;> clear hK K
          · exact (hbE.alloc hzE _).drew.trans (own_below (by exact hownE.alloc _) hg7 (by show w3.heap.size ≤ (we.alloc _).heap.size; simp; omega))
          have hb7 : Below w3.heap.size w3 w7 := (hbE.alloc hzE _).drew.trans (own_below (by exact hownE.alloc _) hg7 (by show w3.heap.size ≤ (we.alloc _).heap.size; simp; omega))
          replace hS := hb7
          try simp only [Act.put, List.setIfInBounds_toArray, List.set_cons_zero, List.set_cons_succ]
          (refine mv_val 13 (v := ?_) rfl (by kernel_rfl) (by kernel_rfl) (by kernel_rfl) (fun _ _ _ h => h) (by rfl) hS ?_ ?_; rotate_left; (focus (intro w hSw; (try dsimp only at hSw); (have f1 := (F1 w hSw).1; have f2 := (F1 w hSw).2; have f3 := hkm; have f4 := hkI; have f5 := hlt; have f6 := hwk; have f7 := hk0; have f8 := hkn); go_simp; first | done | with_reducible rfl)); simp only [Act.put, List.setIfInBounds_toArray, List.set_cons_zero, List.set_cons_succ])
          refine wpAnyH_done (by kernel_rfl) ?_ _
          go_wp2_with fail
          go_roundw
          case rel =>
            refine ⟨k + 1, by omega, by go_num, ?_, hb7⟩
            rw [HNX3.out, scells_append, List.length_append, List.length_append, ← HJ.out]
            exact hown7
          case measure => simp [intOf]; omega
    · rcases last_cases X with rfl | ⟨o, u, rfl⟩
      · have hnx := pcStep_nil (q := y) HTX.out
        rw [← HST.out] at hnx
        have HNX := Lib.hid hnx
        clear hnx HST HTX
        simp only [List.length_nil] at hownD hXl ⊢
        go_wp2_with fail
        refine ah_start 17 (fun w' => Below w3.heap.size w3 w') rfl (by kernel_rfl) hbD.drew ?_ ; intro hS
        (refine mv_val 0 (v := ?_) rfl (by kernel_rfl) (by kernel_rfl) (by kernel_rfl) (fun _ _ _ h => h) (by rfl) hS ?_ ?_; rotate_left; (focus (intro w hSw; (try dsimp only at hSw); (have f1 := (F1 w hSw).1; have f3 := hkm); go_simp; first | done | with_reducible rfl)); simp only [Act.put, List.setIfInBounds_toArray, List.set_cons_zero, List.set_cons_succ])
        (refine mv_val 1 (v := ?_) rfl (by kernel_rfl) (by kernel_rfl) (by kernel_rfl) (fun _ _ _ h => h) (by rfl) hS ?_ ?_; rotate_left; (focus (intro w hSw; (try dsimp only at hSw); (have f1 := (F1 w hSw).1; have f3 := hkm); go_simp; first | done | with_reducible rfl)); simp only [Act.put, List.setIfInBounds_toArray, List.set_cons_zero, List.set_cons_succ])
        (refine mv_val 2 (v := ?_) rfl (by kernel_rfl) (by kernel_rfl) (by kernel_rfl) (fun _ _ _ h => h) (by rfl) hS ?_ ?_; rotate_left; (focus (intro w hSw; (try dsimp only at hSw); (have f1 := (F1 w hSw).1; have f3 := hkm); go_simp; first | done | with_reducible rfl)); simp only [Act.put, List.setIfInBounds_toArray, List.set_cons_zero, List.set_cons_succ])
        (refine mv_val 3 (v := ?_) rfl (by kernel_rfl) (by kernel_rfl) (by kernel_rfl) (fun _ _ _ h => h) (by rfl) hS ?_ ?_; rotate_left; (focus (intro w hSw; (try dsimp only at hSw); (have f1 := (F1 w hSw).1; have f3 := hkm); go_simp; first | done | with_reducible rfl)); simp only [Act.put, List.setIfInBounds_toArray, List.set_cons_zero, List.set_cons_succ])
        (refine mv_skip 4 rfl (by kernel_rfl) (by kernel_rfl) (by kernel_rfl) (fun _ _ _ h => h) (by rfl) hS ?_; simp only [Act.put, List.setIfInBounds_toArray, List.set_cons_zero, List.set_cons_succ])
        (refine mv_skip 5 rfl (by kernel_rfl) (by kernel_rfl) (by kernel_rfl) (fun _ _ _ h => h) (by rfl) hS ?_; simp only [Act.put, List.setIfInBounds_toArray, List.set_cons_zero, List.set_cons_succ])
        (refine mv_skip 6 rfl (by kernel_rfl) (by kernel_rfl) (by kernel_rfl) (fun _ _ _ h => h) (by rfl) hS ?_; simp only [Act.put, List.setIfInBounds_toArray, List.set_cons_zero, List.set_cons_succ])
        (refine mv_skip 7 rfl (by kernel_rfl) (by kernel_rfl) (by kernel_rfl) (fun _ _ _ h => h) (by rfl) hS ?_; simp only [Act.put, List.setIfInBounds_toArray, List.set_cons_zero, List.set_cons_succ])
        (refine mv_skip 8 rfl (by kernel_rfl) (by kernel_rfl) (by kernel_rfl) (fun _ _ _ h => h) (by rfl) hS ?_; simp only [Act.put, List.setIfInBounds_toArray, List.set_cons_zero, List.set_cons_succ])
        (refine mv_skip 9 rfl (by kernel_rfl) (by kernel_rfl) (by kernel_rfl) (fun _ _ _ h => h) (by rfl) hS ?_; simp only [Act.put, List.setIfInBounds_toArray, List.set_cons_zero, List.set_cons_succ])
        (refine mv_skip 10 rfl (by kernel_rfl) (by kernel_rfl) (by kernel_rfl) (fun _ _ _ h => h) (by rfl) hS ?_; simp only [Act.put, List.setIfInBounds_toArray, List.set_cons_zero, List.set_cons_succ])
        (refine mv_skip 11 rfl (by kernel_rfl) (by kernel_rfl) (by kernel_rfl) (fun _ _ _ h => h) (by rfl) hS ?_; simp only [Act.put, List.setIfInBounds_toArray, List.set_cons_zero, List.set_cons_succ])
        (refine mv_skip 12 rfl (by kernel_rfl) (by kernel_rfl) (by kernel_rfl) (fun _ _ _ h => h) (by rfl) hS ?_; simp only [Act.put, List.setIfInBounds_toArray, List.set_cons_zero, List.set_cons_succ])
        (refine mv_skip 13 rfl (by kernel_rfl) (by kernel_rfl) (by kernel_rfl) (fun _ _ _ h => h) (by rfl) hS ?_; simp only [Act.put, List.setIfInBounds_toArray, List.set_cons_zero, List.set_cons_succ])
        (refine mv_skip 14 rfl (by kernel_rfl) (by kernel_rfl) (by kernel_rfl) (fun _ _ _ h => h) (by rfl) hS ?_; simp only [Act.put, List.setIfInBounds_toArray, List.set_cons_zero, List.set_cons_succ])
        (refine mv_skip 15 rfl (by kernel_rfl) (by kernel_rfl) (by kernel_rfl) (fun _ _ _ h => h) (by rfl) hS ?_; simp only [Act.put, List.setIfInBounds_toArray, List.set_cons_zero, List.set_cons_succ])
        (refine mv_val 16 (v := ?_) rfl (by kernel_rfl) (by kernel_rfl) (by kernel_rfl) (fun _ _ _ h => h) (by rfl) hS ?_ ?_; rotate_left; (focus (intro w hSw; (try dsimp only at hSw); (have f1 := (F1 w hSw).1; have f3 := hkm); go_simp; first | done | with_reducible rfl)); simp only [Act.put, List.setIfInBounds_toArray, List.set_cons_zero, List.set_cons_succ])
        refine wpAnyH_done (by kernel_rfl) ?_ _
        obtain ⟨we, hwe⟩ : ∃ we, we = wd.drew := ⟨_, rfl⟩
        have hownE : we.ownsRow w3.heap.size 27 2 (.slice A8 0 c8) 0 (scells []) := by rw [hwe]; exact hownD
        have hbE : Below w3.heap.size w3 we := by rw [hwe]; exact hbD.drew
        have hzE := hbE.size
        rw [← hwe]
        clear hwe hownD hbD hS
        go_wp2_with fail
        refine ah_start 14 (fun w' => Below w3.heap.size w3 w') rfl (by kernel_rfl) hbE.drew ?_ ; intro hS
        (refine mv_val 0 (v := ?_) rfl (by kernel_rfl) (by kernel_rfl) (by kernel_rfl) (fun _ _ _ h => h) (by rfl) hS ?_ ?_; rotate_left; (focus (intro w hSw; (try dsimp only at hSw); (have f1 := (F1 w hSw).1; have f2 := (F1 w hSw).2; have f3 := hkm; have f4 := hkI; have f5 := hlt; have f6 := hwk; have f7 := hk0; have f8 := hkn); go_simp; first | done | with_reducible rfl)); simp only [Act.put, List.setIfInBounds_toArray, List.set_cons_zero, List.set_cons_succ])
        (refine mv_val 1 (v := ?_) rfl (by kernel_rfl) (by kernel_rfl) (by kernel_rfl) (fun _ _ _ h => h) (by rfl) hS ?_ ?_; rotate_left; (focus (intro w hSw; (try dsimp only at hSw); (have f1 := (F1 w hSw).1; have f2 := (F1 w hSw).2; have f3 := hkm; have f4 := hkI; have f5 := hlt; have f6 := hwk; have f7 := hk0; have f8 := hkn); go_simp; first | done | with_reducible rfl)); simp only [Act.put, List.setIfInBounds_toArray, List.set_cons_zero, List.set_cons_succ])
        (refine mv_val 2 (v := ?_) rfl (by kernel_rfl) (by kernel_rfl) (by kernel_rfl) (fun _ _ _ h => h) (by rfl) hS ?_ ?_; rotate_left; (focus (intro w hSw; (try dsimp only at hSw); (have f1 := (F1 w hSw).1; have f2 := (F1 w hSw).2; have f3 := hkm; have f4 := hkI; have f5 := hlt; have f6 := hwk; have f7 := hk0; have f8 := hkn); go_simp; first | done | with_reducible rfl)); simp only [Act.put, List.setIfInBounds_toArray, List.set_cons_zero, List.set_cons_succ])
        (refine mv_val 3 (v := ?_) rfl (by kernel_rfl) (by kernel_rfl) (by kernel_rfl) (fun _ _ _ h => h) (by rfl) hS ?_ ?_; rotate_left; (focus (intro w hSw; (try dsimp only at hSw); (have f1 := (F1 w hSw).1; have f2 := (F1 w hSw).2; have f3 := hkm; have f4 := hkI; have f5 := hlt; have f6 := hwk; have f7 := hk0; have f8 := hkn); go_simp; first | done | with_reducible rfl)); simp only [Act.put, List.setIfInBounds_toArray, List.set_cons_zero, List.set_cons_succ])
        (refine mv_val 4 (v := ?_) rfl (by kernel_rfl) (by kernel_rfl) (by kernel_rfl) (fun _ _ _ h => h) (by rfl) hS ?_ ?_; rotate_left; (focus (intro w hSw; (try dsimp only at hSw); (have f1 := (F1 w hSw).1; have f2 := (F1 w hSw).2; have f3 := hkm; have f4 := hkI; have f5 := hlt; have f6 := hwk; have f7 := hk0; have f8 := hkn); go_simp; first | done | with_reducible rfl)); simp only [Act.put, List.setIfInBounds_toArray, List.set_cons_zero, List.set_cons_succ])
        (refine mv_val 5 (v := ?_) rfl (by kernel_rfl) (by kernel_rfl) (by kernel_rfl) (fun _ _ _ h => h) (by rfl) hS ?_ ?_; rotate_left; (focus (intro w hSw; (try dsimp only at hSw); (have f1 := (F1 w hSw).1; have f2 := (F1 w hSw).2; have f3 := hkm; have f4 := hkI; have f5 := hlt; have f6 := hwk; have f7 := hk0; have f8 := hkn); go_simp; first | done | with_reducible rfl)); simp only [Act.put, List.setIfInBounds_toArray, List.set_cons_zero, List.set_cons_succ])
        (refine mv_val 6 (v := ?_) rfl (by kernel_rfl) (by kernel_rfl) (by kernel_rfl) (fun _ _ _ h => h) (by rfl) hS ?_ ?_; rotate_left; (focus (intro w hSw; (try dsimp only at hSw); (have f1 := (F1 w hSw).1; have f2 := (F1 w hSw).2; have f3 := hkm; have f4 := hkI; have f5 := hlt; have f6 := hwk; have f7 := hk0; have f8 := hkn); go_simp; first | done | with_reducible rfl)); simp only [Act.put, List.setIfInBounds_toArray, List.set_cons_zero, List.set_cons_succ])
        (refine mv_val 7 (v := ?_) rfl (by kernel_rfl) (by kernel_rfl) (by kernel_rfl) (fun _ _ _ h => h) (by rfl) hS ?_ ?_; rotate_left; (focus (intro w hSw; (try dsimp only at hSw); (have f1 := (F1 w hSw).1; have f2 := (F1 w hSw).2; have f3 := hkm; have f4 := hkI; have f5 := hlt; have f6 := hwk; have f7 := hk0; have f8 := hkn); go_simp; first | done | with_reducible rfl)); simp only [Act.put, List.setIfInBounds_toArray, List.set_cons_zero, List.set_cons_succ])
        (refine mv_val 8 (v := ?_) rfl (by kernel_rfl) (by kernel_rfl) (by kernel_rfl) (fun _ _ _ h => h) (by rfl) hS ?_ ?_; rotate_left; (focus (intro w hSw; (try dsimp only at hSw); (have f1 := (F1 w hSw).1; have f2 := (F1 w hSw).2; have f3 := hkm; have f4 := hkI; have f5 := hlt; have f6 := hwk; have f7 := hk0; have f8 := hkn); go_simp; first | done | with_reducible rfl)); simp only [Act.put, List.setIfInBounds_toArray, List.set_cons_zero, List.set_cons_succ])
        (refine mv_val 9 (v := ?_) rfl (by kernel_rfl) (by kernel_rfl) (by kernel_rfl) (fun _ _ _ h => h) (by rfl) hS ?_ ?_; rotate_left; (focus (intro w hSw; (try dsimp only at hSw); (have f1 := (F1 w hSw).1; have f2 := (F1 w hSw).2; have f3 := hkm; have f4 := hkI; have f5 := hlt; have f6 := hwk; have f7 := hk0; have f8 := hkn); go_simp; first | done | with_reducible rfl)); simp only [Act.put, List.setIfInBounds_toArray, List.set_cons_zero, List.set_cons_succ])
        (refine mv_val 10 (v := ?_) rfl (by kernel_rfl) (by kernel_rfl) (by kernel_rfl) (fun _ _ _ h => h) (by rfl) hS ?_ ?_; rotate_left; (focus (intro w hSw; (try dsimp only at hSw); (have f1 := (F1 w hSw).1; have f2 := (F1 w hSw).2; have f3 := hkm; have f4 := hkI; have f5 := hlt; have f6 := hwk; have f7 := hk0; have f8 := hkn); go_simp; first | done | with_reducible rfl)); simp only [Act.put, List.setIfInBounds_toArray, List.set_cons_zero, List.set_cons_succ])
        refine mv_step 11 rfl (by kernel_rfl) (by rfl) (fun K hK => ?_)
        go_simp
        refine hK _ _ ?_ ?_ <;> clear hK K
        · exact (hbE.alloc hzE _).drew
        try simp only [Act.put, List.setIfInBounds_toArray, List.set_cons_zero, List.set_cons_succ]
        refine mv_step 12 rfl (by kernel_rfl) (by rfl) (fun K hK => ?_)
        refine wp_app HEL _ _ rfl (by exact hownE.alloc _) rfl rfl (by exact sc_two (x, y) rfl) rfl (sc_one _) (by unfold maxLen; omega) (by have : (0 + 1) * by_ ≤ 1 * 64 := Nat.mul_le_mul (by omega) hby; omega) (by show w3.heap.size ≤ (we.alloc _).heap.size; simp; omega) ?_; intro v7 w7 hown7 hg7 _; refine hK _ _ ?_ ?_ <;> clear hK K
        · exact (hbE.alloc hzE _).drew.trans (own_below (by exact hownE.alloc _) hg7 (by show w3.heap.size ≤ (we.alloc _).heap.size; simp; omega))
        have hb7 : Below w3.heap.size w3 w7 := (hbE.alloc hzE _).drew.trans (own_below (by exact hownE.alloc _) hg7 (by show w3.heap.size ≤ (we.alloc _).heap.size; simp; omega))
        replace hS := hb7
        try simp only [Act.put, List.setIfInBounds_toArray, List.set_cons_zero, List.set_cons_succ]
        (refine mv_val 13 (v := ?_) rfl (by kernel_rfl) (by kernel_rfl) (by kernel_rfl) (fun _ _ _ h => h) (by rfl) hS ?_ ?_; rotate_left; (focus (intro w hSw; (try dsimp only at hSw); (have f1 := (F1 w hSw).1; have f2 := (F1 w hSw).2; have f3 := hkm; have f4 := hkI; have f5 := hlt; have f6 := hwk; have f7 := hk0; have f8 := hkn); go_simp; first | done | with_reducible rfl)); simp only [Act.put, List.setIfInBounds_toArray, List.set_cons_zero, List.set_cons_succ])
        refine wpAnyH_done (by kernel_rfl) ?_ _
        go_wp2_with fail
        go_roundw
        case rel => exact ⟨k + 1, by omega, by go_num, by rw [HNX.out]; exact hown7, hb7⟩
        case measure => simp [intOf]; omega
      · have hol : (o ++ [u]).length = o.length + 1 := by simp
        rw [hol] at hownD hXl ⊢
        obtain ⟨j, hj⟩ : ∃ j, j = o.length := ⟨_, rfl⟩
        rw [← hj] at hownD hXl ⊢
        obtain ⟨g, cap, hA, hg1, hg2⟩ := own_some hownD (by omega)
        simp only [Value.slice.injEq, true_and] at hA
        obtain ⟨rfl, rfl⟩ := hA
        have hbu : (o ++ [u])[j]? = some u := by rw [hj]; simp
        obtain ⟨p0, p1⟩ := scells_at _ _ _ hbu
        have hget := (scells_length (o ++ [u]))
        have c1 := hownD.cellAt (j * 2 + 1) (by omega)
        rw [p1] at c1
        have G1 : ∀ w', Below wd.heap.size wd w' → w'.cell? ⟨g, j * 2 + 1, none⟩ = some (.int .i64 u.2) := fun w' h => cell_be c1 h hg2
        have F2 : ∀ w', Below wd.heap.size wd w' → w'.cell? ⟨gc, oc + k, none⟩ = some (.int .i64 x) ∧ w'.cell? ⟨gc, oc + (k + 1), none⟩ = some (.int .i64 y) := fun w' h => F1 w' (hbD.trans (h.mono hzD))
        have hwj : IntKind.i64.wrap (j : Int) = (j : Int) := by rw [IntKind.wrap_i64]; omega
        have hjI : (0 : Int) < (j : Int) + 1 := by omega
        have hjJ : (j : Int) < (j : Int) + 1 := by omega
        have hnx := pcStep_last (q := y) o u HTX.out
        rw [← HST.out] at hnx
        have HNX := Lib.hid hnx
        have HBU := Lib.hid hbu
        have HJ := Lib.hid hj
        clear HST HTX p0 p1 hget hbu hj hol hnx
        go_wp2_with fail
        refine ah_start 17 (fun w' => Below wd.heap.size wd w') rfl (by kernel_rfl) (Below.refl _ _).drew ?_ ; intro hS
        (refine mv_val 0 (v := ?_) rfl (by kernel_rfl) (by kernel_rfl) (by kernel_rfl) (fun _ _ _ h => h) (by rfl) hS ?_ ?_; rotate_left; (focus (intro w hSw; (try dsimp only at hSw); (have f1 := (F2 w hSw).1; have f2 := G1 w hSw; have f3 := hwj; have f4 := hjI; have f5 := hjJ; have f6 := hkm); go_simp; first | done | with_reducible rfl)); simp only [Act.put, List.setIfInBounds_toArray, List.set_cons_zero, List.set_cons_succ])
        (refine mv_val 1 (v := ?_) rfl (by kernel_rfl) (by kernel_rfl) (by kernel_rfl) (fun _ _ _ h => h) (by rfl) hS ?_ ?_; rotate_left; (focus (intro w hSw; (try dsimp only at hSw); (have f1 := (F2 w hSw).1; have f2 := G1 w hSw; have f3 := hwj; have f4 := hjI; have f5 := hjJ; have f6 := hkm); go_simp; first | done | with_reducible rfl)); simp only [Act.put, List.setIfInBounds_toArray, List.set_cons_zero, List.set_cons_succ])
        (refine mv_val 2 (v := ?_) rfl (by kernel_rfl) (by kernel_rfl) (by kernel_rfl) (fun _ _ _ h => h) (by rfl) hS ?_ ?_; rotate_left; (focus (intro w hSw; (try dsimp only at hSw); (have f1 := (F2 w hSw).1; have f2 := G1 w hSw; have f3 := hwj; have f4 := hjI; have f5 := hjJ; have f6 := hkm); go_simp; first | done | with_reducible rfl)); simp only [Act.put, List.setIfInBounds_toArray, List.set_cons_zero, List.set_cons_succ])
        (refine mv_val 3 (v := ?_) rfl (by kernel_rfl) (by kernel_rfl) (by kernel_rfl) (fun _ _ _ h => h) (by rfl) hS ?_ ?_; rotate_left; (focus (intro w hSw; (try dsimp only at hSw); (have f1 := (F2 w hSw).1; have f2 := G1 w hSw; have f3 := hwj; have f4 := hjI; have f5 := hjJ; have f6 := hkm); go_simp; first | done | with_reducible rfl)); simp only [Act.put, List.setIfInBounds_toArray, List.set_cons_zero, List.set_cons_succ])
        (refine mv_val 4 (v := ?_) rfl (by kernel_rfl) (by kernel_rfl) (by kernel_rfl) (fun _ _ _ h => h) (by rfl) hS ?_ ?_; rotate_left; (focus (intro w hSw; (try dsimp only at hSw); (have f1 := (F2 w hSw).1; have f2 := G1 w hSw; have f3 := hwj; have f4 := hjI; have f5 := hjJ; have f6 := hkm); go_simp; first | done | with_reducible rfl)); simp only [Act.put, List.setIfInBounds_toArray, List.set_cons_zero, List.set_cons_succ])
        (refine mv_val 5 (v := ?_) rfl (by kernel_rfl) (by kernel_rfl) (by kernel_rfl) (fun _ _ _ h => h) (by rfl) hS ?_ ?_; rotate_left; (focus (intro w hSw; (try dsimp only at hSw); (have f1 := (F2 w hSw).1; have f2 := G1 w hSw; have f3 := hwj; have f4 := hjI; have f5 := hjJ; have f6 := hkm); go_simp; first | done | with_reducible rfl)); simp only [Act.put, List.setIfInBounds_toArray, List.set_cons_zero, List.set_cons_succ])
        (refine mv_val 6 (v := ?_) rfl (by kernel_rfl) (by kernel_rfl) (by kernel_rfl) (fun _ _ _ h => h) (by rfl) hS ?_ ?_; rotate_left; (focus (intro w hSw; (try dsimp only at hSw); (have f1 := (F2 w hSw).1; have f2 := G1 w hSw; have f3 := hwj; have f4 := hjI; have f5 := hjJ; have f6 := hkm); go_simp; first | done | with_reducible rfl)); simp only [Act.put, List.setIfInBounds_toArray, List.set_cons_zero, List.set_cons_succ])
        (refine mv_val 7 (v := ?_) rfl (by kernel_rfl) (by kernel_rfl) (by kernel_rfl) (fun _ _ _ h => h) (by rfl) hS ?_ ?_; rotate_left; (focus (intro w hSw; (try dsimp only at hSw); (have f1 := (F2 w hSw).1; have f2 := G1 w hSw; have f3 := hwj; have f4 := hjI; have f5 := hjJ; have f6 := hkm); go_simp; first | done | with_reducible rfl)); simp only [Act.put, List.setIfInBounds_toArray, List.set_cons_zero, List.set_cons_succ])
        (refine mv_val 8 (v := ?_) rfl (by kernel_rfl) (by kernel_rfl) (by kernel_rfl) (fun _ _ _ h => h) (by rfl) hS ?_ ?_; rotate_left; (focus (intro w hSw; (try dsimp only at hSw); (have f1 := (F2 w hSw).1; have f2 := G1 w hSw; have f3 := hwj; have f4 := hjI; have f5 := hjJ; have f6 := hkm); go_simp; first | done | with_reducible rfl)); simp only [Act.put, List.setIfInBounds_toArray, List.set_cons_zero, List.set_cons_succ])
        (refine mv_val 9 (v := ?_) rfl (by kernel_rfl) (by kernel_rfl) (by kernel_rfl) (fun _ _ _ h => h) (by rfl) hS ?_ ?_; rotate_left; (focus (intro w hSw; (try dsimp only at hSw); (have f1 := (F2 w hSw).1; have f2 := G1 w hSw; have f3 := hwj; have f4 := hjI; have f5 := hjJ; have f6 := hkm); go_simp; first | done | with_reducible rfl)); simp only [Act.put, List.setIfInBounds_toArray, List.set_cons_zero, List.set_cons_succ])
        (refine mv_val 10 (v := ?_) rfl (by kernel_rfl) (by kernel_rfl) (by kernel_rfl) (fun _ _ _ h => h) (by rfl) hS ?_ ?_; rotate_left; (focus (intro w hSw; (try dsimp only at hSw); (have f1 := (F2 w hSw).1; have f2 := G1 w hSw; have f3 := hwj; have f4 := hjI; have f5 := hjJ; have f6 := hkm); go_simp; first | done | with_reducible rfl)); simp only [Act.put, List.setIfInBounds_toArray, List.set_cons_zero, List.set_cons_succ])
        (refine mv_val 11 (v := ?_) rfl (by kernel_rfl) (by kernel_rfl) (by kernel_rfl) (fun _ _ _ h => h) (by rfl) hS ?_ ?_; rotate_left; (focus (intro w hSw; (try dsimp only at hSw); (have f1 := (F2 w hSw).1; have f2 := G1 w hSw; have f3 := hwj; have f4 := hjI; have f5 := hjJ; have f6 := hkm); go_simp; first | done | with_reducible rfl)); simp only [Act.put, List.setIfInBounds_toArray, List.set_cons_zero, List.set_cons_succ])
        (refine mv_val 12 (v := ?_) rfl (by kernel_rfl) (by kernel_rfl) (by kernel_rfl) (fun _ _ _ h => h) (by rfl) hS ?_ ?_; rotate_left; (focus (intro w hSw; (try dsimp only at hSw); (have f1 := (F2 w hSw).1; have f2 := G1 w hSw; have f3 := hwj; have f4 := hjI; have f5 := hjJ; have f6 := hkm); go_simp; first | done | with_reducible rfl)); simp only [Act.put, List.setIfInBounds_toArray, List.set_cons_zero, List.set_cons_succ])
        (refine mv_val 13 (v := ?_) rfl (by kernel_rfl) (by kernel_rfl) (by kernel_rfl) (fun _ _ _ h => h) (by rfl) hS ?_ ?_; rotate_left; (focus (intro w hSw; (try dsimp only at hSw); (have f1 := (F2 w hSw).1; have f2 := G1 w hSw; have f3 := hwj; have f4 := hjI; have f5 := hjJ; have f6 := hkm); go_simp; first | done | with_reducible rfl)); simp only [Act.put, List.setIfInBounds_toArray, List.set_cons_zero, List.set_cons_succ])
        (refine mv_val 14 (v := ?_) rfl (by kernel_rfl) (by kernel_rfl) (by kernel_rfl) (fun _ _ _ h => h) (by rfl) hS ?_ ?_; rotate_left; (focus (intro w hSw; (try dsimp only at hSw); (have f1 := (F2 w hSw).1; have f2 := G1 w hSw; have f3 := hwj; have f4 := hjI; have f5 := hjJ; have f6 := hkm); go_simp; first | done | with_reducible rfl)); simp only [Act.put, List.setIfInBounds_toArray, List.set_cons_zero, List.set_cons_succ])
        (refine mv_val 15 (v := ?_) rfl (by kernel_rfl) (by kernel_rfl) (by kernel_rfl) (fun _ _ _ h => h) (by rfl) hS ?_ ?_; rotate_left; (focus (intro w hSw; (try dsimp only at hSw); (have f1 := (F2 w hSw).1; have f2 := G1 w hSw; have f3 := hwj; have f4 := hjI; have f5 := hjJ; have f6 := hkm); go_simp; first | done | with_reducible rfl)); simp only [Act.put, List.setIfInBounds_toArray, List.set_cons_zero, List.set_cons_succ])
        (refine mv_val 16 (v := ?_) rfl (by kernel_rfl) (by kernel_rfl) (by kernel_rfl) (fun _ _ _ h => h) (by rfl) hS ?_ ?_; rotate_left; (focus (intro w hSw; (try dsimp only at hSw); (have f1 := (F2 w hSw).1; have f2 := G1 w hSw; have f3 := hwj; have f4 := hjI; have f5 := hjJ; have f6 := hkm); go_simp; first | done | with_reducible rfl)); simp only [Act.put, List.setIfInBounds_toArray, List.set_cons_zero, List.set_cons_succ])
        refine wpAnyH_done (by kernel_rfl) ?_ _
        obtain ⟨we, hwe⟩ : ∃ we, we = wd.drew := ⟨_, rfl⟩
        have hownE : we.ownsRow w3.heap.size 27 2 (.slice (some ⟨g, 0, none⟩) (j + 1) c8) (j + 1) (scells (o ++ [u])) := by rw [hwe]; exact hownD
        have hbE : Below w3.heap.size w3 we := by rw [hwe]; exact hbD.drew
        have hzE := hbE.size
        have e2 : we.cell? ⟨g, j * 2 + 1, none⟩ = some (.int .i64 u.2) := by rw [hwe]; exact c1
        have e0 := (F1 _ hbE).1
        have e1 := (F1 _ hbE).2
        rw [← hwe]
        clear hwe hownD hbD hS c1 G1 F2
        by_cases hle : u.2 = x
        · have hnx := HNX.out
          rw [if_pos hle] at hnx
          have HNX3 := Lib.hid hnx
          have hbq : (u.2 == x) = true := by simp [hle]
          have hfr := hownE.frozenAt (j * 2 + 1)
          have hset := Lib.hid (own_setTo hownE HBU.out y)
          clear hnx HNX hle
          go_wp2_with fail
          go_roundw
          case rel =>
            refine ⟨k + 1, by omega, by go_num, ?_, hbE.setCell (p := ⟨g, j * 2 + 1, none⟩) hg1 _⟩
            have e : o ++ [(u.1, y)] = (o ++ [u]).set j (u.1, y) := by rw [HJ.out]; simp
            rw [HNX3.out, e, List.length_set, List.length_append, ← HJ.out]
            exact hset.out
          case measure => simp [intOf]; omega
        · have hnx := HNX.out
          rw [if_neg hle] at hnx
          have HNX3 := Lib.hid hnx
          have hbq : (u.2 == x) = false := by simpa using hle
          clear hnx HNX hle
          go_wp2_with fail
          refine ah_start 14 (fun w' => Below w3.heap.size w3 w') rfl (by kernel_rfl) hbE.drew ?_ ; intro hS
          (refine mv_val 0 (v := ?_) rfl (by kernel_rfl) (by kernel_rfl) (by kernel_rfl) (fun _ _ _ h => h) (by rfl) hS ?_ ?_; rotate_left; (focus (intro w hSw; (try dsimp only at hSw); (have f1 := (F1 w hSw).1; have f2 := (F1 w hSw).2; have f3 := hkm; have f4 := hkI; have f5 := hlt; have f6 := hwk; have f7 := hk0; have f8 := hkn); go_simp; first | done | with_reducible rfl)); simp only [Act.put, List.setIfInBounds_toArray, List.set_cons_zero, List.set_cons_succ])
          (refine mv_val 1 (v := ?_) rfl (by kernel_rfl) (by kernel_rfl) (by kernel_rfl) (fun _ _ _ h => h) (by rfl) hS ?_ ?_; rotate_left; (focus (intro w hSw; (try dsimp only at hSw); (have f1 := (F1 w hSw).1; have f2 := (F1 w hSw).2; have f3 := hkm; have f4 := hkI; have f5 := hlt; have f6 := hwk; have f7 := hk0; have f8 := hkn); go_simp; first | done | with_reducible rfl)); simp only [Act.put, List.setIfInBounds_toArray, List.set_cons_zero, List.set_cons_succ])
          (refine mv_val 2 (v := ?_) rfl (by kernel_rfl) (by kernel_rfl) (by kernel_rfl) (fun _ _ _ h => h) (by rfl) hS ?_ ?_; rotate_left; (focus (intro w hSw; (try dsimp only at hSw); (have f1 := (F1 w hSw).1; have f2 := (F1 w hSw).2; have f3 := hkm; have f4 := hkI; have f5 := hlt; have f6 := hwk; have f7 := hk0; have f8 := hkn); go_simp; first | done | with_reducible rfl)); simp only [Act.put, List.setIfInBounds_toArray, List.set_cons_zero, List.set_cons_succ])
          (refine mv_val 3 (v := ?_) rfl (by kernel_rfl) (by kernel_rfl) (by kernel_rfl) (fun _ _ _ h => h) (by rfl) hS ?_ ?_; rotate_left; (focus (intro w hSw; (try dsimp only at hSw); (have f1 := (F1 w hSw).1; have f2 := (F1 w hSw).2; have f3 := hkm; have f4 := hkI; have f5 := hlt; have f6 := hwk; have f7 := hk0; have f8 := hkn); go_simp; first | done | with_reducible rfl)); simp only [Act.put, List.setIfInBounds_toArray, List.set_cons_zero, List.set_cons_succ])
          (refine mv_val 4 (v := ?_) rfl (by kernel_rfl) (by kernel_rfl) (by kernel_rfl) (fun _ _ _ h => h) (by rfl) hS ?_ ?_; rotate_left; (focus (intro w hSw; (try dsimp only at hSw); (have f1 := (F1 w hSw).1; have f2 := (F1 w hSw).2; have f3 := hkm; have f4 := hkI; have f5 := hlt; have f6 := hwk; have f7 := hk0; have f8 := hkn); go_simp; first | done | with_reducible rfl)); simp only [Act.put, List.setIfInBounds_toArray, List.set_cons_zero, List.set_cons_succ])
          (refine mv_val 5 (v := ?_) rfl (by kernel_rfl) (by kernel_rfl) (by kernel_rfl) (fun _ _ _ h => h) (by rfl) hS ?_ ?_; rotate_left; (focus (intro w hSw; (try dsimp only at hSw); (have f1 := (F1 w hSw).1; have f2 := (F1 w hSw).2; have f3 := hkm; have f4 := hkI; have f5 := hlt; have f6 := hwk; have f7 := hk0; have f8 := hkn); go_simp; first | done | with_reducible rfl)); simp only [Act.put, List.setIfInBounds_toArray, List.set_cons_zero, List.set_cons_succ])
          (refine mv_val 6 (v := ?_) rfl (by kernel_rfl) (by kernel_rfl) (by kernel_rfl) (fun _ _ _ h => h) (by rfl) hS ?_ ?_; rotate_left; (focus (intro w hSw; (try dsimp only at hSw); (have f1 := (F1 w hSw).1; have f2 := (F1 w hSw).2; have f3 := hkm; have f4 := hkI; have f5 := hlt; have f6 := hwk; have f7 := hk0; have f8 := hkn); go_simp; first | done | with_reducible rfl)); simp only [Act.put, List.setIfInBounds_toArray, List.set_cons_zero, List.set_cons_succ])
          (refine mv_val 7 (v := ?_) rfl (by kernel_rfl) (by kernel_rfl) (by kernel_rfl) (fun _ _ _ h => h) (by rfl) hS ?_ ?_; rotate_left; (focus (intro w hSw; (try dsimp only at hSw); (have f1 := (F1 w hSw).1; have f2 := (F1 w hSw).2; have f3 := hkm; have f4 := hkI; have f5 := hlt; have f6 := hwk; have f7 := hk0; have f8 := hkn); go_simp; first | done | with_reducible rfl)); simp only [Act.put, List.setIfInBounds_toArray, List.set_cons_zero, List.set_cons_succ])
          (refine mv_val 8 (v := ?_) rfl (by kernel_rfl) (by kernel_rfl) (by kernel_rfl) (fun _ _ _ h => h) (by rfl) hS ?_ ?_; rotate_left; (focus (intro w hSw; (try dsimp only at hSw); (have f1 := (F1 w hSw).1; have f2 := (F1 w hSw).2; have f3 := hkm; have f4 := hkI; have f5 := hlt; have f6 := hwk; have f7 := hk0; have f8 := hkn); go_simp; first | done | with_reducible rfl)); simp only [Act.put, List.setIfInBounds_toArray, List.set_cons_zero, List.set_cons_succ])
          (refine mv_val 9 (v := ?_) rfl (by kernel_rfl) (by kernel_rfl) (by kernel_rfl) (fun _ _ _ h => h) (by rfl) hS ?_ ?_; rotate_left; (focus (intro w hSw; (try dsimp only at hSw); (have f1 := (F1 w hSw).1; have f2 := (F1 w hSw).2; have f3 := hkm; have f4 := hkI; have f5 := hlt; have f6 := hwk; have f7 := hk0; have f8 := hkn); go_simp; first | done | with_reducible rfl)); simp only [Act.put, List.setIfInBounds_toArray, List.set_cons_zero, List.set_cons_succ])
          (refine mv_val 10 (v := ?_) rfl (by kernel_rfl) (by kernel_rfl) (by kernel_rfl) (fun _ _ _ h => h) (by rfl) hS ?_ ?_; rotate_left; (focus (intro w hSw; (try dsimp only at hSw); (have f1 := (F1 w hSw).1; have f2 := (F1 w hSw).2; have f3 := hkm; have f4 := hkI; have f5 := hlt; have f6 := hwk; have f7 := hk0; have f8 := hkn); go_simp; first | done | with_reducible rfl)); simp only [Act.put, List.setIfInBounds_toArray, List.set_cons_zero, List.set_cons_succ])
          refine mv_step 11 rfl (by kernel_rfl) (by rfl) (fun K hK => ?_)
          go_simp
          refine hK _ _ ?_ ?_ <;> clear hK K
          · exact (hbE.alloc hzE _).drew
          try simp only [Act.put, List.setIfInBounds_toArray, List.set_cons_zero, List.set_cons_succ]
          refine mv_step 12 rfl (by kernel_rfl) (by rfl) (fun K hK => ?_)
          refine wp_app HEL _ _ rfl (by exact hownE.alloc _) rfl rfl (by exact sc_two (x, y) rfl) rfl (sc_one _) (by unfold maxLen; omega) (by have : (j + 1 + 1) * by_ ≤ 1000000001 * 64 := Nat.mul_le_mul (by omega) hby; omega) (by show w3.heap.size ≤ (we.alloc _).heap.size; simp; omega) ?_; intro v7 w7 hown7 hg7 _; refine hK _ _ ?_ ?_ <;> clear hK K
          · exact (hbE.alloc hzE _).drew.trans (own_below (by exact hownE.alloc _) hg7 (by show w3.heap.size ≤ (we.alloc _).heap.size; simp; omega))
          have hb7 : Below w3.heap.size w3 w7 := (hbE.alloc hzE _).drew.trans (own_below (by exact hownE.alloc _) hg7 (by show w3.heap.size ≤ (we.alloc _).heap.size; simp; omega))
          replace hS := hb7
          try simp only [Act.put, List.setIfInBounds_toArray, List.set_cons_zero, List.set_cons_succ]
          (refine mv_val 13 (v := ?_) rfl (by kernel_rfl) (by kernel_rfl) (by kernel_rfl) (fun _ _ _ h => h) (by rfl) hS ?_ ?_; rotate_left; (focus (intro w hSw; (try dsimp only at hSw); (have f1 := (F1 w hSw).1; have f2 := (F1 w hSw).2; have f3 := hkm; have f4 := hkI; have f5 := hlt; have f6 := hwk; have f7 := hk0; have f8 := hkn); go_simp; first | done | with_reducible rfl)); simp only [Act.put, List.setIfInBounds_toArray, List.set_cons_zero, List.set_cons_succ])
          refine wpAnyH_done (by kernel_rfl) ?_ _
          go_wp2_with fail
          go_roundw
          case rel =>
            refine ⟨k + 1, by omega, by go_num, ?_, hb7⟩
            rw [HNX3.out, scells_append, List.length_append, List.length_append, ← HJ.out]
            exact hown7
          case measure => simp [intOf]; omega
    · rcases last_cases X with rfl | ⟨o, u, rfl⟩
      · have hnx := pcStep_nil (q := y) HTX.out
        rw [← HST.out] at hnx
        have HNX := Lib.hid hnx
        clear hnx HST HTX
        simp only [List.length_nil] at hownD hXl ⊢
        go_wp2_with fail
        refine ah_start 17 (fun w' => Below w3.heap.size w3 w') rfl (by kernel_rfl) hbD.drew ?_ ; intro hS
        (refine mv_val 0 (v := ?_) rfl (by kernel_rfl) (by kernel_rfl) (by kernel_rfl) (fun _ _ _ h => h) (by rfl) hS ?_ ?_; rotate_left; (focus (intro w hSw; (try dsimp only at hSw); (have f1 := (F1 w hSw).1; have f3 := hkm); go_simp; first | done | with_reducible rfl)); simp only [Act.put, List.setIfInBounds_toArray, List.set_cons_zero, List.set_cons_succ])
        (refine mv_val 1 (v := ?_) rfl (by kernel_rfl) (by kernel_rfl) (by kernel_rfl) (fun _ _ _ h => h) (by rfl) hS ?_ ?_; rotate_left; (focus (intro w hSw; (try dsimp only at hSw); (have f1 := (F1 w hSw).1; have f3 := hkm); go_simp; first | done | with_reducible rfl)); simp only [Act.put, List.setIfInBounds_toArray, List.set_cons_zero, List.set_cons_succ])
        (refine mv_val 2 (v := ?_) rfl (by kernel_rfl) (by kernel_rfl) (by kernel_rfl) (fun _ _ _ h => h) (by rfl) hS ?_ ?_; rotate_left; (focus (intro w hSw; (try dsimp only at hSw); (have f1 := (F1 w hSw).1; have f3 := hkm); go_simp; first | done | with_reducible rfl)); simp only [Act.put, List.setIfInBounds_toArray, List.set_cons_zero, List.set_cons_succ])
        (refine mv_val 3 (v := ?_) rfl (by kernel_rfl) (by kernel_rfl) (by kernel_rfl) (fun _ _ _ h => h) (by rfl) hS ?_ ?_; rotate_left; (focus (intro w hSw; (try dsimp only at hSw); (have f1 := (F1 w hSw).1; have f3 := hkm); go_simp; first | done | with_reducible rfl)); simp only [Act.put, List.setIfInBounds_toArray, List.set_cons_zero, List.set_cons_succ])
        (refine mv_skip 4 rfl (by kernel_rfl) (by kernel_rfl) (by kernel_rfl) (fun _ _ _ h => h) (by rfl) hS ?_; simp only [Act.put, List.setIfInBounds_toArray, List.set_cons_zero, List.set_cons_succ])
        (refine mv_skip 5 rfl (by kernel_rfl) (by kernel_rfl) (by kernel_rfl) (fun _ _ _ h => h) (by rfl) hS ?_; simp only [Act.put, List.setIfInBounds_toArray, List.set_cons_zero, List.set_cons_succ])
        (refine mv_skip 6 rfl (by kernel_rfl) (by kernel_rfl) (by kernel_rfl) (fun _ _ _ h => h) (by rfl) hS ?_; simp only [Act.put, List.setIfInBounds_toArray, List.set_cons_zero, List.set_cons_succ])
        (refine mv_skip 7 rfl (by kernel_rfl) (by kernel_rfl) (by kernel_rfl) (fun _ _ _ h => h) (by rfl) hS ?_; simp only [Act.put, List.setIfInBounds_toArray, List.set_cons_zero, List.set_cons_succ])
        (refine mv_skip 8 rfl (by kernel_rfl) (by kernel_rfl) (by kernel_rfl) (fun _ _ _ h => h) (by rfl) hS ?_; simp only [Act.put, List.setIfInBounds_toArray, List.set_cons_zero, List.set_cons_succ])
        (refine mv_skip 9 rfl (by kernel_rfl) (by kernel_rfl) (by kernel_rfl) (fun _ _ _ h => h) (by rfl) hS ?_; simp only [Act.put, List.setIfInBounds_toArray, List.set_cons_zero, List.set_cons_succ])
        (refine mv_skip 10 rfl (by kernel_rfl) (by kernel_rfl) (by kernel_rfl) (fun _ _ _ h => h) (by rfl) hS ?_; simp only [Act.put, List.setIfInBounds_toArray, List.set_cons_zero, List.set_cons_succ])
        (refine mv_skip 11 rfl (by kernel_rfl) (by kernel_rfl) (by kernel_rfl) (fun _ _ _ h => h) (by rfl) hS ?_; simp only [Act.put, List.setIfInBounds_toArray, List.set_cons_zero, List.set_cons_succ])
        (refine mv_skip 12 rfl (by kernel_rfl) (by kernel_rfl) (by kernel_rfl) (fun _ _ _ h => h) (by rfl) hS ?_; simp only [Act.put, List.setIfInBounds_toArray, List.set_cons_zero, List.set_cons_succ])
        (refine mv_skip 13 rfl (by kernel_rfl) (by kernel_rfl) (by kernel_rfl) (fun _ _ _ h => h) (by rfl) hS ?_; simp only [Act.put, List.setIfInBounds_toArray, List.set_cons_zero, List.set_cons_succ])
        (refine mv_skip 14 rfl (by kernel_rfl) (by kernel_rfl) (by kernel_rfl) (fun _ _ _ h => h) (by rfl) hS ?_; simp only [Act.put, List.setIfInBounds_toArray, List.set_cons_zero, List.set_cons_succ])
        (refine mv_skip 15 rfl (by kernel_rfl) (by kernel_rfl) (by kernel_rfl) (fun _ _ _ h => h) (by rfl) hS ?_; simp only [Act.put, List.setIfInBounds_toArray, List.set_cons_zero, List.set_cons_succ])
        (refine mv_val 16 (v := ?_) rfl (by kernel_rfl) (by kernel_rfl) (by kernel_rfl) (fun _ _ _ h => h) (by rfl) hS ?_ ?_; rotate_left; (focus (intro w hSw; (try dsimp only at hSw); (have f1 := (F1 w hSw).1; have f3 := hkm); go_simp; first | done | with_reducible rfl)); simp only [Act.put, List.setIfInBounds_toArray, List.set_cons_zero, List.set_cons_succ])
        refine wpAnyH_done (by kernel_rfl) ?_ _
        obtain ⟨we, hwe⟩ : ∃ we, we = wd.drew := ⟨_, rfl⟩
        have hownE : we.ownsRow w3.heap.size 27 2 (.slice A8 0 c8) 0 (scells []) := by rw [hwe]; exact hownD
        have hbE : Below w3.heap.size w3 we := by rw [hwe]; exact hbD.drew
        have hzE := hbE.size
        rw [← hwe]
        clear hwe hownD hbD hS
        go_wp2_with fail
        refine ah_start 14 (fun w' => Below w3.heap.size w3 w') rfl (by kernel_rfl) hbE.drew ?_ ; intro hS
        (refine mv_val 0 (v := ?_) rfl (by kernel_rfl) (by kernel_rfl) (by kernel_rfl) (fun _ _ _ h => h) (by rfl) hS ?_ ?_; rotate_left; (focus (intro w hSw; (try dsimp only at hSw); (have f1 := (F1 w hSw).1; have f2 := (F1 w hSw).2; have f3 := hkm; have f4 := hkI; have f5 := hlt; have f6 := hwk; have f7 := hk0; have f8 := hkn); go_simp; first | done | with_reducible rfl)); simp only [Act.put, List.setIfInBounds_toArray, List.set_cons_zero, List.set_cons_succ])
        (refine mv_val 1 (v := ?_) rfl (by kernel_rfl) (by kernel_rfl) (by kernel_rfl) (fun _ _ _ h => h) (by rfl) hS ?_ ?_; rotate_left; (focus (intro w hSw; (try dsimp only at hSw); (have f1 := (F1 w hSw).1; have f2 := (F1 w hSw).2; have f3 := hkm; have f4 := hkI; have f5 := hlt; have f6 := hwk; have f7 := hk0; have f8 := hkn); go_simp; first | done | with_reducible rfl)); simp only [Act.put, List.setIfInBounds_toArray, List.set_cons_zero, List.set_cons_succ])
        (refine mv_val 2 (v := ?_) rfl (by kernel_rfl) (by kernel_rfl) (by kernel_rfl) (fun _ _ _ h => h) (by rfl) hS ?_ ?_; rotate_left; (focus (intro w hSw; (try dsimp only at hSw); (have f1 := (F1 w hSw).1; have f2 := (F1 w hSw).2; have f3 := hkm; have f4 := hkI; have f5 := hlt; have f6 := hwk; have f7 := hk0; have f8 := hkn); go_simp; first | done | with_reducible rfl)); simp only [Act.put, List.setIfInBounds_toArray, List.set_cons_zero, List.set_cons_succ])
        (refine mv_val 3 (v := ?_) rfl (by kernel_rfl) (by kernel_rfl) (by kernel_rfl) (fun _ _ _ h => h) (by rfl) hS ?_ ?_; rotate_left; (focus (intro w hSw; (try dsimp only at hSw); (have f1 := (F1 w hSw).1; have f2 := (F1 w hSw).2; have f3 := hkm; have f4 := hkI; have f5 := hlt; have f6 := hwk; have f7 := hk0; have f8 := hkn); go_simp; first | done | with_reducible rfl)); simp only [Act.put, List.setIfInBounds_toArray, List.set_cons_zero, List.set_cons_succ])
        (refine mv_val 4 (v := ?_) rfl (by kernel_rfl) (by kernel_rfl) (by kernel_rfl) (fun _ _ _ h => h) (by rfl) hS ?_ ?_; rotate_left; (focus (intro w hSw; (try dsimp only at hSw); (have f1 := (F1 w hSw).1; have f2 := (F1 w hSw).2; have f3 := hkm; have f4 := hkI; have f5 := hlt; have f6 := hwk; have f7 := hk0; have f8 := hkn); go_simp; first | done | with_reducible rfl)); simp only [Act.put, List.setIfInBounds_toArray, List.set_cons_zero, List.set_cons_succ])
        (refine mv_val 5 (v := ?_) rfl (by kernel_rfl) (by kernel_rfl) (by kernel_rfl) (fun _ _ _ h => h) (by rfl) hS ?_ ?_; rotate_left; (focus (intro w hSw; (try dsimp only at hSw); (have f1 := (F1 w hSw).1; have f2 := (F1 w hSw).2; have f3 := hkm; have f4 := hkI; have f5 := hlt; have f6 := hwk; have f7 := hk0; have f8 := hkn); go_simp; first | done | with_reducible rfl)); simp only [Act.put, List.setIfInBounds_toArray, List.set_cons_zero, List.set_cons_succ])
        (refine mv_val 6 (v := ?_) rfl (by kernel_rfl) (by kernel_rfl) (by kernel_rfl) (fun _ _ _ h => h) (by rfl) hS ?_ ?_; rotate_left; (focus (intro w hSw; (try dsimp only at hSw); (have f1 := (F1 w hSw).1; have f2 := (F1 w hSw).2; have f3 := hkm; have f4 := hkI; have f5 := hlt; have f6 := hwk; have f7 := hk0; have f8 := hkn); go_simp; first | done | with_reducible rfl)); simp only [Act.put, List.setIfInBounds_toArray, List.set_cons_zero, List.set_cons_succ])
        (refine mv_val 7 (v := ?_) rfl (by kernel_rfl) (by kernel_rfl) (by kernel_rfl) (fun _ _ _ h => h) (by rfl) hS ?_ ?_; rotate_left; (focus (intro w hSw; (try dsimp only at hSw); (have f1 := (F1 w hSw).1; have f2 := (F1 w hSw).2; have f3 := hkm; have f4 := hkI; have f5 := hlt; have f6 := hwk; have f7 := hk0; have f8 := hkn); go_simp; first | done | with_reducible rfl)); simp only [Act.put, List.setIfInBounds_toArray, List.set_cons_zero, List.set_cons_succ])
        (refine mv_val 8 (v := ?_) rfl (by kernel_rfl) (by kernel_rfl) (by kernel_rfl) (fun _ _ _ h => h) (by rfl) hS ?_ ?_; rotate_left; (focus (intro w hSw; (try dsimp only at hSw); (have f1 := (F1 w hSw).1; have f2 := (F1 w hSw).2; have f3 := hkm; have f4 := hkI; have f5 := hlt; have f6 := hwk; have f7 := hk0; have f8 := hkn); go_simp; first | done | with_reducible rfl)); simp only [Act.put, List.setIfInBounds_toArray, List.set_cons_zero, List.set_cons_succ])
        (refine mv_val 9 (v := ?_) rfl (by kernel_rfl) (by kernel_rfl) (by kernel_rfl) (fun _ _ _ h => h) (by rfl) hS ?_ ?_; rotate_left; (focus (intro w hSw; (try dsimp only at hSw); (have f1 := (F1 w hSw).1; have f2 := (F1 w hSw).2; have f3 := hkm; have f4 := hkI; have f5 := hlt; have f6 := hwk; have f7 := hk0; have f8 := hkn); go_simp; first | done | with_reducible rfl)); simp only [Act.put, List.setIfInBounds_toArray, List.set_cons_zero, List.set_cons_succ])
        (refine mv_val 10 (v := ?_) rfl (by kernel_rfl) (by kernel_rfl) (by kernel_rfl) (fun _ _ _ h => h) (by rfl) hS ?_ ?_; rotate_left; (focus (intro w hSw; (try dsimp only at hSw); (have f1 := (F1 w hSw).1; have f2 := (F1 w hSw).2; have f3 := hkm; have f4 := hkI; have f5 := hlt; have f6 := hwk; have f7 := hk0; have f8 := hkn); go_simp; first | done | with_reducible rfl)); simp only [Act.put, List.setIfInBounds_toArray, List.set_cons_zero, List.set_cons_succ])
        refine mv_step 11 rfl (by kernel_rfl) (by rfl) (fun K hK => ?_)
        go_simp
        refine hK _ _ ?_ ?_ <;> clear hK K
        · exact (hbE.alloc hzE _).drew
        try simp only [Act.put, List.setIfInBounds_toArray, List.set_cons_zero, List.set_cons_succ]
        refine mv_step 12 rfl (by kernel_rfl) (by rfl) (fun K hK => ?_)
        refine wp_app HEL _ _ rfl (by exact hownE.alloc _) rfl rfl (by exact sc_two (x, y) rfl) rfl (sc_one _) (by unfold maxLen; omega) (by have : (0 + 1) * by_ ≤ 1 * 64 := Nat.mul_le_mul (by omega) hby; omega) (by show w3.heap.size ≤ (we.alloc _).heap.size; simp; omega) ?_; intro v7 w7 hown7 hg7 _; refine hK _ _ ?_ ?_ <;> clear hK K
        · exact (hbE.alloc hzE _).drew.trans (own_below (by exact hownE.alloc _) hg7 (by show w3.heap.size ≤ (we.alloc _).heap.size; simp; omega))
        have hb7 : Below w3.heap.size w3 w7 := (hbE.alloc hzE _).drew.trans (own_below (by exact hownE.alloc _) hg7 (by show w3.heap.size ≤ (we.alloc _).heap.size; simp; omega))
        replace hS := hb7
        try simp only [Act.put, List.setIfInBounds_toArray, List.set_cons_zero, List.set_cons_succ]
        (refine mv_val 13 (v := ?_) rfl (by kernel_rfl) (by kernel_rfl) (by kernel_rfl) (fun _ _ _ h => h) (by rfl) hS ?_ ?_; rotate_left; (focus (intro w hSw; (try dsimp only at hSw); (have f1 := (F1 w hSw).1; have f2 := (F1 w hSw).2; have f3 := hkm; have f4 := hkI; have f5 := hlt; have f6 := hwk; have f7 := hk0; have f8 := hkn); go_simp; first | done | with_reducible rfl)); simp only [Act.put, List.setIfInBounds_toArray, List.set_cons_zero, List.set_cons_succ])
        refine wpAnyH_done (by kernel_rfl) ?_ _
        go_wp2_with fail
        go_roundw
        case rel => exact ⟨k + 1, by omega, by go_num, by rw [HNX.out]; exact hown7, hb7⟩
        case measure => simp [intOf]; omega
      · have hol : (o ++ [u]).length = o.length + 1 := by simp
        rw [hol] at hownD hXl ⊢
        obtain ⟨j, hj⟩ : ∃ j, j = o.length := ⟨_, rfl⟩
        rw [← hj] at hownD hXl ⊢
        obtain ⟨g, cap, hA, hg1, hg2⟩ := own_some hownD (by omega)
        simp only [Value.slice.injEq, true_and] at hA
        obtain ⟨rfl, rfl⟩ := hA
        have hbu : (o ++ [u])[j]? = some u := by rw [hj]; simp
        obtain ⟨p0, p1⟩ := scells_at _ _ _ hbu
        have hget := (scells_length (o ++ [u]))
        have c1 := hownD.cellAt (j * 2 + 1) (by omega)
        rw [p1] at c1
        have G1 : ∀ w', Below wd.heap.size wd w' → w'.cell? ⟨g, j * 2 + 1, none⟩ = some (.int .i64 u.2) := fun w' h => cell_be c1 h hg2
        have F2 : ∀ w', Below wd.heap.size wd w' → w'.cell? ⟨gc, oc + k, none⟩ = some (.int .i64 x) ∧ w'.cell? ⟨gc, oc + (k + 1), none⟩ = some (.int .i64 y) := fun w' h => F1 w' (hbD.trans (h.mono hzD))
        have hwj : IntKind.i64.wrap (j : Int) = (j : Int) := by rw [IntKind.wrap_i64]; omega
        have hjI : (0 : Int) < (j : Int) + 1 := by omega
        have hjJ : (j : Int) < (j : Int) + 1 := by omega
        have hnx := pcStep_last (q := y) o u HTX.out
        rw [← HST.out] at hnx
        have HNX := Lib.hid hnx
        have HBU := Lib.hid hbu
        have HJ := Lib.hid hj
        clear HST HTX p0 p1 hget hbu hj hol hnx
        go_wp2_with fail
        refine ah_start 17 (fun w' => Below wd.heap.size wd w') rfl (by kernel_rfl) (Below.refl _ _).drew ?_ ; intro hS
        (refine mv_val 0 (v := ?_) rfl (by kernel_rfl) (by kernel_rfl) (by kernel_rfl) (fun _ _ _ h => h) (by rfl) hS ?_ ?_; rotate_left; (focus (intro w hSw; (try dsimp only at hSw); (have f1 := (F2 w hSw).1; have f2 := G1 w hSw; have f3 := hwj; have f4 := hjI; have f5 := hjJ; have f6 := hkm); go_simp; first | done | with_reducible rfl)); simp only [Act.put, List.setIfInBounds_toArray, List.set_cons_zero, List.set_cons_succ])
        (refine mv_val 1 (v := ?_) rfl (by kernel_rfl) (by kernel_rfl) (by kernel_rfl) (fun _ _ _ h => h) (by rfl) hS ?_ ?_; rotate_left; (focus (intro w hSw; (try dsimp only at hSw); (have f1 := (F2 w hSw).1; have f2 := G1 w hSw; have f3 := hwj; have f4 := hjI; have f5 := hjJ; have f6 := hkm); go_simp; first | done | with_reducible rfl)); simp only [Act.put, List.setIfInBounds_toArray, List.set_cons_zero, List.set_cons_succ])
        (refine mv_val 2 (v := ?_) rfl (by kernel_rfl) (by kernel_rfl) (by kernel_rfl) (fun _ _ _ h => h) (by rfl) hS ?_ ?_; rotate_left; (focus (intro w hSw; (try dsimp only at hSw); (have f1 := (F2 w hSw).1; have f2 := G1 w hSw; have f3 := hwj; have f4 := hjI; have f5 := hjJ; have f6 := hkm); go_simp; first | done | with_reducible rfl)); simp only [Act.put, List.setIfInBounds_toArray, List.set_cons_zero, List.set_cons_succ])
        (refine mv_val 3 (v := ?_) rfl (by kernel_rfl) (by kernel_rfl) (by kernel_rfl) (fun _ _ _ h => h) (by rfl) hS ?_ ?_; rotate_left; (focus (intro w hSw; (try dsimp only at hSw); (have f1 := (F2 w hSw).1; have f2 := G1 w hSw; have f3 := hwj; have f4 := hjI; have f5 := hjJ; have f6 := hkm); go_simp; first | done | with_reducible rfl)); simp only [Act.put, List.setIfInBounds_toArray, List.set_cons_zero, List.set_cons_succ])
        (refine mv_val 4 (v := ?_) rfl (by kernel_rfl) (by kernel_rfl) (by kernel_rfl) (fun _ _ _ h => h) (by rfl) hS ?_ ?_; rotate_left; (focus (intro w hSw; (try dsimp only at hSw); (have f1 := (F2 w hSw).1; have f2 := G1 w hSw; have f3 := hwj; have f4 := hjI; have f5 := hjJ; have f6 := hkm); go_simp; first | done | with_reducible rfl)); simp only [Act.put, List.setIfInBounds_toArray, List.set_cons_zero, List.set_cons_succ])
        (refine mv_val 5 (v := ?_) rfl (by kernel_rfl) (by kernel_rfl) (by kernel_rfl) (fun _ _ _ h => h) (by rfl) hS ?_ ?_; rotate_left; (focus (intro w hSw; (try dsimp only at hSw); (have f1 := (F2 w hSw).1; have f2 := G1 w hSw; have f3 := hwj; have f4 := hjI; have f5 := hjJ; have f6 := hkm); go_simp; first | done | with_reducible rfl)); simp only [Act.put, List.setIfInBounds_toArray, List.set_cons_zero, List.set_cons_succ])
        (refine mv_val 6 (v := ?_) rfl (by kernel_rfl) (by kernel_rfl) (by kernel_rfl) (fun _ _ _ h => h) (by rfl) hS ?_ ?_; rotate_left; (focus (intro w hSw; (try dsimp only at hSw); (have f1 := (F2 w hSw).1; have f2 := G1 w hSw; have f3 := hwj; have f4 := hjI; have f5 := hjJ; have f6 := hkm); go_simp; first | done | with_reducible rfl)); simp only [Act.put, List.setIfInBounds_toArray, List.set_cons_zero, List.set_cons_succ])
        (refine mv_val 7 (v := ?_) rfl (by kernel_rfl) (by kernel_rfl) (by kernel_rfl) (fun _ _ _ h => h) (by rfl) hS ?_ ?_; rotate_left; (focus (intro w hSw; (try dsimp only at hSw); (have f1 := (F2 w hSw).1; have f2 := G1 w hSw; have f3 := hwj; have f4 := hjI; have f5 := hjJ; have f6 := hkm); go_simp; first | done | with_reducible rfl)); simp only [Act.put, List.setIfInBounds_toArray, List.set_cons_zero, List.set_cons_succ])
        (refine mv_val 8 (v := ?_) rfl (by kernel_rfl) (by kernel_rfl) (by kernel_rfl) (fun _ _ _ h => h) (by rfl) hS ?_ ?_; rotate_left; (focus (intro w hSw; (try dsimp only at hSw); (have f1 := (F2 w hSw).1; have f2 := G1 w hSw; have f3 := hwj; have f4 := hjI; have f5 := hjJ; have f6 := hkm); go_simp; first | done | with_reducible rfl)); simp only [Act.put, List.setIfInBounds_toArray, List.set_cons_zero, List.set_cons_succ])
        (refine mv_val 9 (v := ?_) rfl (by kernel_rfl) (by kernel_rfl) (by kernel_rfl) (fun _ _ _ h => h) (by rfl) hS ?_ ?_; rotate_left; (focus (intro w hSw; (try dsimp only at hSw); (have f1 := (F2 w hSw).1; have f2 := G1 w hSw; have f3 := hwj; have f4 := hjI; have f5 := hjJ; have f6 := hkm); go_simp; first | done | with_reducible rfl)); simp only [Act.put, List.setIfInBounds_toArray, List.set_cons_zero, List.set_cons_succ])
        (refine mv_val 10 (v := ?_) rfl (by kernel_rfl) (by kernel_rfl) (by kernel_rfl) (fun _ _ _ h => h) (by rfl) hS ?_ ?_; rotate_left; (focus (intro w hSw; (try dsimp only at hSw); (have f1 := (F2 w hSw).1; have f2 := G1 w hSw; have f3 := hwj; have f4 := hjI; have f5 := hjJ; have f6 := hkm); go_simp; first | done | with_reducible rfl)); simp only [Act.put, List.setIfInBounds_toArray, List.set_cons_zero, List.set_cons_succ])
        (refine mv_val 11 (v := ?_) rfl (by kernel_rfl) (by kernel_rfl) (by kernel_rfl) (fun _ _ _ h => h) (by rfl) hS ?_ ?_; rotate_left; (focus (intro w hSw; (try dsimp only at hSw); (have f1 := (F2 w hSw).1; have f2 := G1 w hSw; have f3 := hwj; have f4 := hjI; have f5 := hjJ; have f6 := hkm); go_simp; first | done | with_reducible rfl)); simp only [Act.put, List.setIfInBounds_toArray, List.set_cons_zero, List.set_cons_succ])
        (refine mv_val 12 (v := ?_) rfl (by kernel_rfl) (by kernel_rfl) (by kernel_rfl) (fun _ _ _ h => h) (by rfl) hS ?_ ?_; rotate_left; (focus (intro w hSw; (try dsimp only at hSw); (have f1 := (F2 w hSw).1; have f2 := G1 w hSw; have f3 := hwj; have f4 := hjI; have f5 := hjJ; have f6 := hkm); go_simp; first | done | with_reducible rfl)); simp only [Act.put, List.setIfInBounds_toArray, List.set_cons_zero, List.set_cons_succ])
        (refine mv_val 13 (v := ?_) rfl (by kernel_rfl) (by kernel_rfl) (by kernel_rfl) (fun _ _ _ h => h) (by rfl) hS ?_ ?_; rotate_left; (focus (intro w hSw; (try dsimp only at hSw); (have f1 := (F2 w hSw).1; have f2 := G1 w hSw; have f3 := hwj; have f4 := hjI; have f5 := hjJ; have f6 := hkm); go_simp; first | done | with_reducible rfl)); simp only [Act.put, List.setIfInBounds_toArray, List.set_cons_zero, List.set_cons_succ])
        (refine mv_val 14 (v := ?_) rfl (by kernel_rfl) (by kernel_rfl) (by kernel_rfl) (fun _ _ _ h => h) (by rfl) hS ?_ ?_; rotate_left; (focus (intro w hSw; (try dsimp only at hSw); (have f1 := (F2 w hSw).1; have f2 := G1 w hSw; have f3 := hwj; have f4 := hjI; have f5 := hjJ; have f6 := hkm); go_simp; first | done | with_reducible rfl)); simp only [Act.put, List.setIfInBounds_toArray, List.set_cons_zero, List.set_cons_succ])
        (refine mv_val 15 (v := ?_) rfl (by kernel_rfl) (by kernel_rfl) (by kernel_rfl) (fun _ _ _ h => h) (by rfl) hS ?_ ?_; rotate_left; (focus (intro w hSw; (try dsimp only at hSw); (have f1 := (F2 w hSw).1; have f2 := G1 w hSw; have f3 := hwj; have f4 := hjI; have f5 := hjJ; have f6 := hkm); go_simp; first | done | with_reducible rfl)); simp only [Act.put, List.setIfInBounds_toArray, List.set_cons_zero, List.set_cons_succ])
        (refine mv_val 16 (v := ?_) rfl (by kernel_rfl) (by kernel_rfl) (by kernel_rfl) (fun _ _ _ h => h) (by rfl) hS ?_ ?_; rotate_left; (focus (intro w hSw; (try dsimp only at hSw); (have f1 := (F2 w hSw).1; have f2 := G1 w hSw; have f3 := hwj; have f4 := hjI; have f5 := hjJ; have f6 := hkm); go_simp; first | done | with_reducible rfl)); simp only [Act.put, List.setIfInBounds_toArray, List.set_cons_zero, List.set_cons_succ])
        refine wpAnyH_done (by kernel_rfl) ?_ _
        obtain ⟨we, hwe⟩ : ∃ we, we = wd.drew := ⟨_, rfl⟩
        have hownE : we.ownsRow w3.heap.size 27 2 (.slice (some ⟨g, 0, none⟩) (j + 1) c8) (j + 1) (scells (o ++ [u])) := by rw [hwe]; exact hownD
        have hbE : Below w3.heap.size w3 we := by rw [hwe]; exact hbD.drew
        have hzE := hbE.size
        have e2 : we.cell? ⟨g, j * 2 + 1, none⟩ = some (.int .i64 u.2) := by rw [hwe]; exact c1
        have e0 := (F1 _ hbE).1
        have e1 := (F1 _ hbE).2
        rw [← hwe]
        clear hwe hownD hbD hS c1 G1 F2
        by_cases hle : u.2 = x
        · have hnx := HNX.out
          rw [if_pos hle] at hnx
          have HNX3 := Lib.hid hnx
          have hbq : (u.2 == x) = true := by simp [hle]
          have hfr := hownE.frozenAt (j * 2 + 1)
          have hset := Lib.hid (own_setTo hownE HBU.out y)
          clear hnx HNX hle
          go_wp2_with fail
          go_roundw
          case rel =>
            refine ⟨k + 1, by omega, by go_num, ?_, hbE.setCell (p := ⟨g, j * 2 + 1, none⟩) hg1 _⟩
            have e : o ++ [(u.1, y)] = (o ++ [u]).set j (u.1, y) := by rw [HJ.out]; simp
            rw [HNX3.out, e, List.length_set, List.length_append, ← HJ.out]
            exact hset.out
          case measure => simp [intOf]; omega
        · have hnx := HNX.out
          rw [if_neg hle] at hnx
          have HNX3 := Lib.hid hnx
          have hbq : (u.2 == x) = false := by simpa using hle
          clear hnx HNX hle
          go_wp2_with fail
          refine ah_start 14 (fun w' => Below w3.heap.size w3 w') rfl (by kernel_rfl) hbE.drew ?_ ; intro hS
          (refine mv_val 0 (v := ?_) rfl (by kernel_rfl) (by kernel_rfl) (by kernel_rfl) (fun _ _ _ h => h) (by rfl) hS ?_ ?_; rotate_left; (focus (intro w hSw; (try dsimp only at hSw); (have f1 := (F1 w hSw).1; have f2 := (F1 w hSw).2; have f3 := hkm; have f4 := hkI; have f5 := hlt; have f6 := hwk; have f7 := hk0; have f8 := hkn); go_simp; first | done | with_reducible rfl)); simp only [Act.put, List.setIfInBounds_toArray, List.set_cons_zero, List.set_cons_succ])
          (refine mv_val 1 (v := ?_) rfl (by kernel_rfl) (by kernel_rfl) (by kernel_rfl) (fun _ _ _ h => h) (by rfl) hS ?_ ?_; rotate_left; (focus (intro w hSw; (try dsimp only at hSw); (have f1 := (F1 w hSw).1; have f2 := (F1 w hSw).2; have f3 := hkm; have f4 := hkI; have f5 := hlt; have f6 := hwk; have f7 := hk0; have f8 := hkn); go_simp; first | done | with_reducible rfl)); simp only [Act.put, List.setIfInBounds_toArray, List.set_cons_zero, List.set_cons_succ])
          (refine mv_val 2 (v := ?_) rfl (by kernel_rfl) (by kernel_rfl) (by kernel_rfl) (fun _ _ _ h => h) (by rfl) hS ?_ ?_; rotate_left; (focus (intro w hSw; (try dsimp only at hSw); (have f1 := (F1 w hSw).1; have f2 := (F1 w hSw).2; have f3 := hkm; have f4 := hkI; have f5 := hlt; have f6 := hwk; have f7 := hk0; have f8 := hkn); go_simp; first | done | with_reducible rfl)); simp only [Act.put, List.setIfInBounds_toArray, List.set_cons_zero, List.set_cons_succ])
          (refine mv_val 3 (v := ?_) rfl (by kernel_rfl) (by kernel_rfl) (by kernel_rfl) (fun _ _ _ h => h) (by rfl) hS ?_ ?_; rotate_left; (focus (intro w hSw; (try dsimp only at hSw); (have f1 := (F1 w hSw).1; have f2 := (F1 w hSw).2; have f3 := hkm; have f4 := hkI; have f5 := hlt; have f6 := hwk; have f7 := hk0; have f8 := hkn); go_simp; first | done | with_reducible rfl)); simp only [Act.put, List.setIfInBounds_toArray, List.set_cons_zero, List.set_cons_succ])
          (refine mv_val 4 (v := ?_) rfl (by kernel_rfl) (by kernel_rfl) (by kernel_rfl) (fun _ _ _ h => h) (by rfl) hS ?_ ?_; rotate_left; (focus (intro w hSw; (try dsimp only at hSw); (have f1 := (F1 w hSw).1; have f2 := (F1 w hSw).2; have f3 := hkm; have f4 := hkI; have f5 := hlt; have f6 := hwk; have f7 := hk0; have f8 := hkn); go_simp; first | done | with_reducible rfl)); simp only [Act.put, List.setIfInBounds_toArray, List.set_cons_zero, List.set_cons_succ])
          (refine mv_val 5 (v := ?_) rfl (by kernel_rfl) (by kernel_rfl) (by kernel_rfl) (fun _ _ _ h => h) (by rfl) hS ?_ ?_; rotate_left; (focus (intro w hSw; (try dsimp only at hSw); (have f1 := (F1 w hSw).1; have f2 := (F1 w hSw).2; have f3 := hkm; have f4 := hkI; have f5 := hlt; have f6 := hwk; have f7 := hk0; have f8 := hkn); go_simp; first | done | with_reducible rfl)); simp only [Act.put, List.setIfInBounds_toArray, List.set_cons_zero, List.set_cons_succ])
          (refine mv_val 6 (v := ?_) rfl (by kernel_rfl) (by kernel_rfl) (by kernel_rfl) (fun _ _ _ h => h) (by rfl) hS ?_ ?_; rotate_left; (focus (intro w hSw; (try dsimp only at hSw); (have f1 := (F1 w hSw).1; have f2 := (F1 w hSw).2; have f3 := hkm; have f4 := hkI; have f5 := hlt; have f6 := hwk; have f7 := hk0; have f8 := hkn); go_simp; first | done | with_reducible rfl)); simp only [Act.put, List.setIfInBounds_toArray, List.set_cons_zero, List.set_cons_succ])
          (refine mv_val 7 (v := ?_) rfl (by kernel_rfl) (by kernel_rfl) (by kernel_rfl) (fun _ _ _ h => h) (by rfl) hS ?_ ?_; rotate_left; (focus (intro w hSw; (try dsimp only at hSw); (have f1 := (F1 w hSw).1; have f2 := (F1 w hSw).2; have f3 := hkm; have f4 := hkI; have f5 := hlt; have f6 := hwk; have f7 := hk0; have f8 := hkn); go_simp; first | done | with_reducible rfl)); simp only [Act.put, List.setIfInBounds_toArray, List.set_cons_zero, List.set_cons_succ])
          (refine mv_val 8 (v := ?_) rfl (by kernel_rfl) (by kernel_rfl) (by kernel_rfl) (fun _ _ _ h => h) (by rfl) hS ?_ ?_; rotate_left; (focus (intro w hSw; (try dsimp only at hSw); (have f1 := (F1 w hSw).1; have f2 := (F1 w hSw).2; have f3 := hkm; have f4 := hkI; have f5 := hlt; have f6 := hwk; have f7 := hk0; have f8 := hkn); go_simp; first | done | with_reducible rfl)); simp only [Act.put, List.setIfInBounds_toArray, List.set_cons_zero, List.set_cons_succ])
          (refine mv_val 9 (v := ?_) rfl (by kernel_rfl) (by kernel_rfl) (by kernel_rfl) (fun _ _ _ h => h) (by rfl) hS ?_ ?_; rotate_left; (focus (intro w hSw; (try dsimp only at hSw); (have f1 := (F1 w hSw).1; have f2 := (F1 w hSw).2; have f3 := hkm; have f4 := hkI; have f5 := hlt; have f6 := hwk; have f7 := hk0; have f8 := hkn); go_simp; first | done | with_reducible rfl)); simp only [Act.put, List.setIfInBounds_toArray, List.set_cons_zero, List.set_cons_succ])
          (refine mv_val 10 (v := ?_) rfl (by kernel_rfl) (by kernel_rfl) (by kernel_rfl) (fun _ _ _ h => h) (by rfl) hS ?_ ?_; rotate_left; (focus (intro w hSw; (try dsimp only at hSw); (have f1 := (F1 w hSw).1; have f2 := (F1 w hSw).2; have f3 := hkm; have f4 := hkI; have f5 := hlt; have f6 := hwk; have f7 := hk0; have f8 := hkn); go_simp; first | done | with_reducible rfl)); simp only [Act.put, List.setIfInBounds_toArray, List.set_cons_zero, List.set_cons_succ])
          refine mv_step 11 rfl (by kernel_rfl) (by rfl) (fun K hK => ?_)
          go_simp
          refine hK _ _ ?_ ?_ <;> clear hK K
          · exact (hbE.alloc hzE _).drew
          try simp only [Act.put, List.setIfInBounds_toArray, List.set_cons_zero, List.set_cons_succ]
          refine mv_step 12 rfl (by kernel_rfl) (by rfl) (fun K hK => ?_)
          refine wp_app HEL _ _ rfl (by exact hownE.alloc _) rfl rfl (by exact sc_two (x, y) rfl) rfl (sc_one _) (by unfold maxLen; omega) (by have : (j + 1 + 1) * by_ ≤ 1000000001 * 64 := Nat.mul_le_mul (by omega) hby; omega) (by show w3.heap.size ≤ (we.alloc _).heap.size; simp; omega) ?_; intro v7 w7 hown7 hg7 _; refine hK _ _ ?_ ?_ <;> clear hK K
          · exact (hbE.alloc hzE _).drew.trans (own_below (by exact hownE.alloc _) hg7 (by show w3.heap.size ≤ (we.alloc _).heap.size; simp; omega))
          have hb7 : Below w3.heap.size w3 w7 := (hbE.alloc hzE _).drew.trans (own_below (by exact hownE.alloc _) hg7 (by show w3.heap.size ≤ (we.alloc _).heap.size; simp; omega))
          replace hS := hb7
          try simp only [Act.put, List.setIfInBounds_toArray, List.set_cons_zero, List.set_cons_succ]
          (refine mv_val 13 (v := ?_) rfl (by kernel_rfl) (by kernel_rfl) (by kernel_rfl) (fun _ _ _ h => h) (by rfl) hS ?_ ?_; rotate_left; (focus (intro w hSw; (try dsimp only at hSw); (have f1 := (F1 w hSw).1; have f2 := (F1 w hSw).2; have f3 := hkm; have f4 := hkI; have f5 := hlt; have f6 := hwk; have f7 := hk0; have f8 := hkn); go_simp; first | done | with_reducible rfl)); simp only [Act.put, List.setIfInBounds_toArray, List.set_cons_zero, List.set_cons_succ])
          refine wpAnyH_done (by kernel_rfl) ?_ _
          go_wp2_with fail
          go_roundw
          case rel =>
            refine ⟨k + 1, by omega, by go_num, ?_, hb7⟩
            rw [HNX3.out, scells_append, List.length_append, List.length_append, ← HJ.out]
            exact hown7
          case measure => simp [intOf]; omega

theorem nf_or_nil (l : List S2) : (nf fun t => hasB l t || hasB [] t) = ofL l := by unfold ofL; congr 1; funext t; rw [hasB_nil, Bool.or_false]
theorem nf_or (a b : List S2) : (nf fun t => hasB a t || hasB b t) = ofL (a ++ b) := by unfold ofL; congr 1; funext t; rw [hasB_app]

set_option maxRecDepth 100000 in
theorem rOf_any (B : Nat) (A : Option Addr) (c : Nat) (l : List S2) (w : World) (hr : Rd w B A (scells l)) (hB : B ≤ w.heap.size) (hl : l.length ≤ 100000000) :
    Calls Try.prog 26 #[.slice A l.length c] w (RetSs w (ofL l)) := by
  have H := Lib.hid (by have h0 := rof0_any B A none c 0 l [] w hr (Rd.nil _ _ _) hB (by simpa using hl); rw [nf_or_nil] at h0; exact h0)
  obtain ⟨r, hR⟩ : ∃ r, r = (ofL l) := ⟨_, rfl⟩
  rw [← hR] at H ⊢
  clear hR
  go_enter Try.func26, Try.ntmps26
  go_wp2_with fail
  refine H.out.mono ?_; rintro e w1 ⟨A1, c1, rfl, hown1, hb1⟩
  go_wp2_with fail
  go_ret
  exact ⟨A1, c1, rfl, hown1, hb1⟩

set_option maxRecDepth 100000 in
theorem rOr_any (B : Nat) (A A' : Option Addr) (c c' : Nat) (a b : List S2) (w : World) (ha : Rd w B A (scells a)) (hb : Rd w B A' (scells b)) (hB : B ≤ w.heap.size) (hl : a.length + b.length ≤ 100000000) :
    Calls Try.prog 27 #[.slice A a.length c, .slice A' b.length c'] w (RetSs w (ofL (a ++ b))) := by
  have H := Lib.hid (by have h0 := rof0_any B A A' c c' a b w ha hb hB hl; rw [nf_or] at h0; exact h0)
  obtain ⟨r, hR⟩ : ∃ r, r = (ofL (a ++ b)) := ⟨_, rfl⟩
  rw [← hR] at H ⊢
  clear hR
  go_enter Try.func27, Try.ntmps27
  go_wp2_with fail
  refine H.out.mono ?_; rintro e w1 ⟨A1, c1, rfl, hown1, hb1⟩
  go_wp2_with fail
  go_ret
  exact ⟨A1, c1, rfl, hown1, hb1⟩

set_option maxRecDepth 100000 in
theorem rAnd_any (B : Nat) (A A' : Option Addr) (c c' : Nat) (a b : List S2) (w : World) (ha : Rd w B A (scells a)) (hb : Rd w B A' (scells b)) (hB : B ≤ w.heap.size) (hl : a.length + b.length ≤ 100000000) :
    Calls Try.prog 28 #[.slice A a.length c, .slice A' b.length c'] w (RetSs w (nf fun t => hasB a t && hasB b t)) := by
  have H := Lib.hid (rof1_any B A A' c c' a b w ha hb hB hl)
  obtain ⟨r, hR⟩ : ∃ r, r = (nf fun t => hasB a t && hasB b t) := ⟨_, rfl⟩
  rw [← hR] at H ⊢
  clear hR
  go_enter Try.func28, Try.ntmps28
  go_wp2_with fail
  refine H.out.mono ?_; rintro e w1 ⟨A1, c1, rfl, hown1, hb1⟩
  go_wp2_with fail
  go_ret
  exact ⟨A1, c1, rfl, hown1, hb1⟩

set_option maxRecDepth 100000 in
theorem rMinus_any (B : Nat) (A A' : Option Addr) (c c' : Nat) (a b : List S2) (w : World) (ha : Rd w B A (scells a)) (hb : Rd w B A' (scells b)) (hB : B ≤ w.heap.size) (hl : a.length + b.length ≤ 100000000) :
    Calls Try.prog 29 #[.slice A a.length c, .slice A' b.length c'] w (RetSs w (nf fun t => hasB a t && !hasB b t)) := by
  have H := Lib.hid (rof2_any B A A' c c' a b w ha hb hB hl)
  obtain ⟨r, hR⟩ : ∃ r, r = (nf fun t => hasB a t && !hasB b t) := ⟨_, rfl⟩
  rw [← hR] at H ⊢
  clear hR
  go_enter Try.func29, Try.ntmps29
  go_wp2_with fail
  refine H.out.mono ?_; rintro e w1 ⟨A1, c1, rfl, hown1, hb1⟩
  go_wp2_with fail
  go_ret
  exact ⟨A1, c1, rfl, hown1, hb1⟩
end Go.Proofs.Ytiohdacbnigpkaa

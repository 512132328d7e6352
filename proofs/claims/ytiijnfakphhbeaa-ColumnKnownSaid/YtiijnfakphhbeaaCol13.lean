/- The walk of column.Put (layer 6); printed by gen_col13.py. For texts of at most 1000000 bytes each. -/
import Derived.Test.YtiijnfakphhbeaaCol12
namespace Go.Proofs.Ytiijnfakphhbeaa
open Go.RowKit Go.Maps
set_option linter.unusedVariables false
set_option linter.unusedSimpArgs false

theorem two_set0 {w : World} {k : Nat} {v0 v1 : Value} {t : TypeId} (h : w.heap[k]? = some (.cells #[v0, v1] t (0, 0))) (x : Value) :
    (w.setCell ⟨k, 0, none⟩ x).heap[k]? = some (.cells #[x, v1] t (0, 0)) := by
  have hlt := lt_of_block h
  have h' : w.heap[k] = .cells #[v0, v1] t (0, 0) := by simpa [Array.getElem?_eq_getElem hlt] using h
  show (w.heap.modify k _)[k]? = _
  rw [Array.getElem?_eq_getElem (by simpa using hlt), Array.getElem_modify_self, h']
  rfl
theorem two_set1 {w : World} {k : Nat} {v0 v1 : Value} {t : TypeId} (h : w.heap[k]? = some (.cells #[v0, v1] t (0, 0))) (x : Value) :
    (w.setCell ⟨k, 1, none⟩ x).heap[k]? = some (.cells #[v0, x] t (0, 0)) := by
  have hlt := lt_of_block h
  have h' : w.heap[k] = .cells #[v0, v1] t (0, 0) := by simpa [Array.getElem?_eq_getElem hlt] using h
  show (w.heap.modify k _)[k]? = _
  rw [Array.getElem?_eq_getElem (by simpa using hlt), Array.getElem_modify_self, h']
  rfl
theorem two_cells {w : World} {k : Nat} {v0 v1 : Value} {t : TypeId} (h : w.heap[k]? = some (.cells #[v0, v1] t (0, 0))) : w.cell? ⟨k, 0, none⟩ = some v0 ∧ w.cell? ⟨k, 1, none⟩ = some v1 := by
  refine ⟨?_, ?_⟩ <;> simp [World.cell?, h]
theorem two_free {w : World} {k : Nat} {v0 v1 : Value} {t : TypeId} (h : w.heap[k]? = some (.cells #[v0, v1] t (0, 0))) : w.frozen? ⟨k, 0, none⟩ = false ∧ w.frozen? ⟨k, 1, none⟩ = false := by
  refine ⟨?_, ?_⟩ <;> simp [World.frozen?, h]

theorem set_other (w : World) (k o b : Nat) (x : Value) (h : b ≠ k) : (w.setCell ⟨k, o, none⟩ x).heap[b]? = w.heap[b]? := by
  show (w.heap.modify k _)[b]? = _
  rw [Array.getElem?_modify, if_neg (fun e => h e.symm)]
theorem store_fn {f : Value} (hf : f.oneCell' = true) {W : World} {b o : Nat} {u : Value} (h : W.cell? ⟨b, o, none⟩ = some u) (hz : W.frozen? ⟨b, o, none⟩ = false) : (store ⟨b, o, none⟩ f).run Try.prog W = .ok () (W.setCell ⟨b, o, none⟩ f) := by
  rw [run_store _ _ _ _ _ hf]; simp [go_sem, h, hz]
theorem cputF_one (t : Nat) : (cputF t).oneCell' = true := by unfold cputF; split; rfl; split; rfl; split <;> rfl
theorem cgetF_one (t : Nat) : (cgetF t).oneCell' = true := by unfold cgetF; split; rfl; split; rfl; split <;> rfl

theorem bits_le (n : Nat) (p : Nat → Bool) : (bitsN n p).length ≤ n + 1 := by rw [bitsN_len]; unfold size8; omega
theorem flat_snd (l : List V) (f : V → List UInt8) (m : Nat) (h : ∀ v ∈ l, (f v).length ≤ m) : (l.flatMap f).length ≤ l.length * m := by
  induction l with
  | nil => simp
  | cons v l ih =>
    have h1 := ih (fun u hu => h u (List.mem_cons_of_mem _ hu))
    have h2 := h v List.mem_cons_self
    rw [List.flatMap_cons, List.length_append, List.length_cons, Nat.succ_mul]; omega

set_option maxHeartbeats 8000000 in
set_option maxRecDepth 100000 in
theorem cput_any (t : UInt8) (A : Option Addr) (c : Nat) (l : List V) (w : World) (hr : Rd w w.heap.size A (vcells l)) (hx : ∀ v ∈ l, v.k < 256 ∧ i64r v.n ∧ v.t.length ≤ 1000000) (hl63 : l.length ≤ 4611686018427)
    (hT : l.length ≤ 65536 → ((words (marks l)).flatMap wbytes).length ≤ 4000000000) (hC : l.length ≤ 65536 → (cbody t (marks l)).length ≤ 4611686018) :
    Calls Try.prog 12 #[b8 t, .slice A l.length c] w (RetBE w (cput t l)) := by
  have HXX := Lib.hid hx
  have HTT := Lib.hid hT
  have HCC := Lib.hid hC
  obtain ⟨tb, htb⟩ : ∃ tb, tb = tyok t := ⟨_, rfl⟩
  have HTB := Lib.hid htb
  obtain ⟨w1, hw1⟩ : ∃ w1, w1 = (w.alloc (.cells #[b8 t] 5)).alloc (.cells #[.slice A l.length c] 22) := ⟨_, rfl⟩
  have hz1 : w.heap.size + 1 < w1.heap.size := by rw [hw1]; simp
  have hb1 : Below w.heap.size w w1 := by rw [hw1]; exact ((Below.refl _ _).alloc (Nat.le_refl _) _).alloc (by simp) _
  have hq0 : w1.cell? ⟨w.heap.size, 0, none⟩ = some (b8 t) := by rw [hw1]; simp [go_sem]
  have hq1 : w1.cell? ⟨w.heap.size + 1, 0, none⟩ = some (.slice A l.length c) := by rw [hw1]; simp [go_sem]
  obtain ⟨f, hf⟩ : ∃ f, f = cputF t.toNat := ⟨_, rfl⟩
  obtain ⟨g, hg⟩ : ∃ g, g = cgetF t.toNat := ⟨_, rfl⟩
  have HF := Lib.hid hf
  have hf1 : f.oneCell' = true := by rw [hf]; exact cputF_one _
  have hg1 : g.oneCell' = true := by rw [hg]; exact cgetF_one _
  have HF1 := Lib.hid hf1
  have HG1 := Lib.hid hg1
  have hlook : ∀ (W : World) (b : Nat), W.ownsMap Try.prog 5 wayE b 3 ctab → (Instr.lookup 53 (.map (some b)) (b8 t) true).run Try.prog W = .ok (.tuple #[.agg #[f, g], .bool tb]) W := fun W b h => by rw [hf, hg, htb]; exact clook h t
  have HL := Lib.hid hlook
  clear hx hT hC htb hf hg hf1 hg1 hlook
  have hr1 := hr.below hb1
  clear hr
  go_enter Try.func12, Try.ntmps12
  go_wp2_with fail
  rw [← hw1]
  have F1 : ∀ w', Below w1.heap.size w1 w' → w'.cell? ⟨w.heap.size, 0, none⟩ = some (b8 t) := fun w' h => cell_be hq0 h (by show w.heap.size < _; omega)
  clear hw1
  refine ah_start 9 (fun w' => Below w1.heap.size w1 w') rfl (by kernel_rfl) (Below.refl _ _).drew ?_ ; intro hS
  (refine mv_val 1 (v := ?_) rfl (by kernel_rfl) (by kernel_rfl) (by kernel_rfl) (fun _ _ _ h => h) (by rfl) hS ?_ ?_; rotate_left; (focus (intro w hSw; (try dsimp only at hSw); (have f1 := F1 w hSw); go_simp; first | done | with_reducible rfl)); simp only [Act.put, List.setIfInBounds_toArray, List.set_cons_zero, List.set_cons_succ])
  refine mv_two 0 6 rfl rfl (by kernel_rfl) (by rfl) (by rfl) (fun K hK => ?_) (fun K hK => ?_)
  · skip
    (refine wp_enter (f := ?_) (args := ?_) hK ?_ ?_; rotate_left 2; (focus (go_simp; first | done | with_reducible rfl | (refine ⟨?_, ?_⟩ <;> with_reducible rfl))); clear hK K)
    refine (cways_any _).mono ?_; rintro e w2 ⟨rfl, hm2, hb2⟩
    have hS2 : Below w1.heap.size w1 w2 ∧ w2.ownsMap Try.prog 5 wayE w1.heap.size 3 ctab := ⟨hS.trans (hb2.mono hS.size), hm2⟩
    refine ⟨_, rfl, hS2.1, ?_⟩
    refine ah_mono (S' := fun w' => Below w1.heap.size w1 w' ∧ w'.ownsMap Try.prog 5 wayE w1.heap.size 3 ctab) (fun _ h => h.1) _ _ _ _ ?_
    replace hS := hS2
    clear hS2
    simp only [Act.put, List.setIfInBounds_toArray, List.set_cons_zero, List.set_cons_succ]
    (refine mv_val 2 (v := ?_) rfl (by kernel_rfl) (by kernel_rfl) (by kernel_rfl) (fun _ _ _ h => h) (by rfl) hS ?_ ?_; rotate_left; (focus (intro w hSw; (try dsimp only at hSw); (have f1 := F1 w hSw.1; have f2 := HL.out w _ hSw.2); go_simp; first | done | with_reducible rfl)); simp only [Act.put, List.setIfInBounds_toArray, List.set_cons_zero, List.set_cons_succ])
    (refine mv_val 3 (v := ?_) rfl (by kernel_rfl) (by kernel_rfl) (by kernel_rfl) (fun _ _ _ h => h) (by rfl) hS ?_ ?_; rotate_left; (focus (intro w hSw; (try dsimp only at hSw); (have f1 := F1 w hSw.1; have f2 := HL.out w _ hSw.2); go_simp; first | done | with_reducible rfl)); simp only [Act.put, List.setIfInBounds_toArray, List.set_cons_zero, List.set_cons_succ])
    (refine mv_val 4 (v := ?_) rfl (by kernel_rfl) (by kernel_rfl) (by kernel_rfl) (fun _ _ _ h => h) (by rfl) hS ?_ ?_; rotate_left; (focus (intro w hSw; (try dsimp only at hSw); (have f1 := F1 w hSw.1; have f2 := HL.out w _ hSw.2); go_simp; first | done | with_reducible rfl)); simp only [Act.put, List.setIfInBounds_toArray, List.set_cons_zero, List.set_cons_succ])
    (refine mv_val 5 (v := ?_) rfl (by kernel_rfl) (by kernel_rfl) (by kernel_rfl) (fun _ _ _ h => h) (by rfl) hS ?_ ?_; rotate_left; (focus (intro w hSw; (try dsimp only at hSw); (have f1 := F1 w hSw.1; have f2 := HL.out w _ hSw.2); go_simp; first | done | with_reducible rfl)); simp only [Act.put, List.setIfInBounds_toArray, List.set_cons_zero, List.set_cons_succ])
    refine mv_step 6 rfl (by kernel_rfl) (by rfl) (fun K hK => ?_)
    go_simp
    refine hK _ _ ?_ ?_ <;> clear hK K
    · exact ⟨hS.1.alloc hS.1.size _, hS.2.alloc _⟩
    have hSold := hS
    replace hS : Below w1.heap.size w1 (w2.alloc (.cells #[.nilFunc, .nilFunc] 51)) ∧ (w2.alloc (.cells #[.nilFunc, .nilFunc] 51)).ownsMap Try.prog 5 wayE w1.heap.size 3 ctab := ⟨hSold.1.alloc hSold.1.size _, hSold.2.alloc _⟩
    try simp only [Act.put, List.setIfInBounds_toArray, List.set_cons_zero, List.set_cons_succ]
    have hs0 : (store ⟨w2.heap.size, 0, none⟩ f).run Try.prog (w2.alloc (.cells #[.nilFunc, .nilFunc] 51)) = .ok () (w2.alloc (.cells #[f, .nilFunc] 51)) := by
      rw [store_fn HF1.out (u := .nilFunc) (by simp [go_sem]) (by simp [go_sem])]; simp [go_sem]
    have hs1 : (store ⟨w2.heap.size, 1, none⟩ g).run Try.prog (w2.alloc (.cells #[f, .nilFunc] 51)) = .ok () (w2.alloc (.cells #[f, g] 51)) := by
      rw [store_fn HG1.out (u := .nilFunc) (by simp [go_sem]) (by simp [go_sem])]; simp [go_sem]
    refine mv_step 7 rfl (by kernel_rfl) (by rfl) (fun K hK => ?_)
    go_simp
    refine hK _ _ ?_ ?_ <;> clear hK K
    · exact ⟨hSold.1.alloc hSold.1.size _, hSold.2.alloc _⟩
    clear hs0 hs1
    replace hS : Below w1.heap.size w1 (w2.alloc (.cells #[f, g] 51)) ∧ (w2.alloc (.cells #[f, g] 51)).ownsMap Try.prog 5 wayE w1.heap.size 3 ctab := ⟨hSold.1.alloc hSold.1.size _, hSold.2.alloc _⟩
    try simp only [Act.put, List.setIfInBounds_toArray, List.set_cons_zero, List.set_cons_succ]
    (refine mv_val 8 (v := ?_) rfl (by kernel_rfl) (by kernel_rfl) (by kernel_rfl) (fun _ _ _ h => h) (by rfl) hS ?_ ?_; rotate_left; (focus (intro w hSw; (try dsimp only at hSw); (have f1 := F1 w hSw.1; have f2 := HL.out w _ hSw.2); go_simp; first | done | with_reducible rfl)); simp only [Act.put, List.setIfInBounds_toArray, List.set_cons_zero, List.set_cons_succ])
    refine wpAnyH_done (by kernel_rfl) ?_ _
    obtain ⟨p, hp⟩ : ∃ p, p = w2.heap.size := ⟨_, rfl⟩
    have hp1 : w1.heap.size ≤ p := by rw [hp]; exact hSold.1.size
    have d0 : (w2.alloc (.cells #[f, g] 51)).cell? ⟨p, 0, none⟩ = some f := by rw [hp]; simp [go_sem]
    obtain ⟨wz, hwz⟩ : ∃ wz, wz = w2.alloc (.cells #[f, g] 51) := ⟨_, rfl⟩
    rw [← hwz] at hS d0 ⊢
    rw [← hp]
    have hbz := hS.1
    clear hwz hSold hp hb2 hm2 hS
    have hzz := hbz.size
    have hb0 : Below w.heap.size w wz := hb1.trans (hbz.mono (by omega))
    have hqz0 := cell_be hq0 hbz (by show w.heap.size < _; omega)
    have hqz1 := cell_be hq1 hbz (by show w.heap.size + 1 < _; omega)
    have hrz := hr1.below (hbz.mono (by omega))
    have hpz := cell_lt d0
    clear hq0 hq1 hr1 F1 hbz hb1
    cases tb
    · have hE : cput t l = ([], 1) := by unfold cput colok; rw [← HTB.out]; rfl
      have HE := Lib.hid hE
      clear hE
      go_wp2_with fail
      go_ret2
      exact retBE_err HE.out hb0
    by_cases hlen : l.length ≤ 65536
    case neg =>
      have hlI : (65536 : Int) < (l.length : Int) := by omega
      have hE : cput t l = ([], 1) := by unfold cput colok; rw [decide_eq_false hlen]; simp
      have HE := Lib.hid hE
      clear hE hlen
      go_wp2_with fail
      go_ret2
      exact retBE_err HE.out hb0
    have hlI : ¬ ((65536 : Int) < (l.length : Int)) := by omega
    have C0 := contains1_any w.heap.size A c l 25 (.pointer (some ⟨w.heap.size, 0, none⟩)) (fun v => !rmay t v) wz hrz (by omega) hlen (fun _ _ => by kernel_rfl) (fun w' hb v hv => put1c_any w.heap.size t v (HXX.out v hv).1 (HXX.out v hv).2.1 (HXX.out v hv).2.2 w' (cell_be hqz0 hb (cell_lt hqz0)))
    obtain ⟨q, hq⟩ : ∃ q, q = l.any (fun v => !rmay t v) := ⟨_, rfl⟩
    rw [← hq] at C0
    have HC := Lib.hid C0
    have HQ := Lib.hid hq
    clear C0 hq
    go_wp2_with fail
    refine HC.out.mono ?_; rintro e w4 ⟨rfl, hb4⟩
    have hb04 : Below w.heap.size w w4 := hb0.trans (hb4.mono (by omega))
    have hall : l.all (rmay t) = !q := by rw [HQ.out, List.any_eq_not_all_not]; simp
    cases q
    case true =>
      have hE : cput t l = ([], 1) := by unfold cput colok; rw [hall]; simp
      have HE := Lib.hid hE
      clear hE hall
      go_wp2_with fail
      go_ret2
      exact retBE_err HE.out hb04
    have hE : cput t l = (bitsN l.length (nullAt l) ++ cbody t (marks l), 0) := by unfold cput colok; rw [hall, ← HTB.out, decide_eq_true hlen]; rfl
    have HE := Lib.hid hE
    have hqw0 := cell_be hqz1 hb4 (cell_lt hqz1)
    have dw0 := cell_be d0 hb4 (cell_lt d0)
    have hrw := hrz.below (hb4.mono (by omega))
    have hz4 := hb4.size
    have CL := clone_any w.heap.size A c l w4 hrw (by omega) hlen
    have HCL := Lib.hid CL
    have hml : (marks l).length ≤ 65536 := Nat.le_trans (marks_le l) hlen
    obtain ⟨fn, hfn, hent, hput⟩ := put_way HTB.out.symm (marks l) hml (fun v hv => by have := (HXX.out v (List.mem_filter.1 hv).1).2.2; omega) (HTT.out hlen)
    obtain rfl : f = .func (.func fn) #[] #[] := HF.out.trans hfn
    have HPUT := Lib.hid hput
    have hcb := HCC.out hlen
    have hbl := bits_le l.length (nullAt l)
    clear hE hall CL hput hqz0 hqz1 d0 hrz HC hfn
    go_wp2_with fail
    refine HCL.out.mono ?_; rintro e w5 ⟨A5, c5, rfl, hown5, hb5⟩
    have hz5 := hb5.size
    have DL := delete_any w4.heap.size A5 c5 l w5 hown5 hz5 hlen
    have HDL := Lib.hid DL
    clear DL
    go_wp2_with fail
    refine HDL.out.mono ?_; rintro e w6 ⟨A6, c6, rfl, hrd6, hb6⟩
    have hb46 : Below w4.heap.size w4 w6 := hb5.trans hb6
    have hqw := cell_be hqw0 hb46 (by show w.heap.size + 1 < _; omega)
    have dw := cell_be dw0 hb46 (by show p < _; omega)
    have hrw6 := hrw.below (hb46.mono (by omega))
    have hb06 : Below w.heap.size w w6 := hb04.trans (hb46.mono (by omega))
    have hz6 := hb46.size
    obtain ⟨bn, hbn⟩ : ∃ x, x = bitsN l.length (nullAt l) := ⟨_, rfl⟩
    obtain ⟨cb, hcb0⟩ : ∃ x, x = cbody t (marks l) := ⟨_, rfl⟩
    obtain ⟨mk, hmk⟩ : ∃ x, x = marks l := ⟨_, rfl⟩
    rw [← hmk] at hrd6 ⊢
    have HMK := Lib.hid hmk
    have HBN := Lib.hid hbn
    have HCB := Lib.hid hcb0
    rw [← hbn] at hbl
    rw [← hcb0] at hcb
    have F2 : ∀ w', Below w6.heap.size w6 w' → w'.cell? ⟨w.heap.size + 1, 0, none⟩ = some (.slice A l.length c) ∧ w'.cell? ⟨p, 0, none⟩ = some (.func (.func fn) #[] #[]) := fun w' h => ⟨cell_be hqw h (cell_lt hqw), cell_be dw h (cell_lt dw)⟩
    have F3 : ∀ w', Below w6.heap.size w6 w' → Calls Try.prog 30 #[.int .i64 (l.length : Int), .func (.func 31) #[] #[.pointer (some ⟨w.heap.size + 1, 0, none⟩)]] w' (RetB w' bn) := fun w' h => by
      rw [hbn]
      exact lay_any l.length hlen 31 (.pointer (some ⟨w.heap.size + 1, 0, none⟩)) (nullAt l) (fun _ _ => by kernel_rfl) w' (fun w'' h2 i hi => null1_any (w.heap.size + 1) A c i l w.heap.size w'' (cell_be (F2 w' h).1 h2 (cell_lt (F2 w' h).1)) (hrw6.below ((h.trans (h2.mono h.size)).mono (by omega))) hi)
    have F4 : ∀ w', Below w6.heap.size w6 w' → Calls Try.prog fn #[.slice A6 mk.length c6] w' (RetB w' cb) := fun w' h => by
      rw [hcb0, hmk]
      exact HPUT.out A6 c6 w' (by rw [← hmk]; exact (hrd6.below h).more h.size)
    have HF2 := Lib.hid F2
    have HF3 := Lib.hid F3
    have HF4 := Lib.hid F4
    clear F2 F3 F4 hqw dw hqw0 dw0 hrw hrw6 hbn hcb0 hmk hrd6 hown5
    go_wp2_with fail
    refine ah_start 11 (fun w' => Below w6.heap.size w6 w') rfl (by kernel_rfl) (Below.refl _ _).drew ?_ ; intro hS
    (refine mv_val 0 (v := ?_) rfl (by kernel_rfl) (by kernel_rfl) (by kernel_rfl) (fun _ _ _ h => h) (by rfl) hS ?_ ?_; rotate_left; (focus (intro w hSw; (try dsimp only at hSw); (have f1 := (HF2.out w hSw).1; have f2 := (HF2.out w hSw).2); go_simp; first | done | with_reducible rfl)); simp only [Act.put, List.setIfInBounds_toArray, List.set_cons_zero, List.set_cons_succ])
    (refine mv_val 1 (v := ?_) rfl (by kernel_rfl) (by kernel_rfl) (by kernel_rfl) (fun _ _ _ h => h) (by rfl) hS ?_ ?_; rotate_left; (focus (intro w hSw; (try dsimp only at hSw); (have f1 := (HF2.out w hSw).1; have f2 := (HF2.out w hSw).2); go_simp; first | done | with_reducible rfl)); simp only [Act.put, List.setIfInBounds_toArray, List.set_cons_zero, List.set_cons_succ])
    (refine mv_val 2 (v := ?_) rfl (by kernel_rfl) (by kernel_rfl) (by kernel_rfl) (fun _ _ _ h => h) (by rfl) hS ?_ ?_; rotate_left; (focus (intro w hSw; (try dsimp only at hSw); (have f1 := (HF2.out w hSw).1; have f2 := (HF2.out w hSw).2); go_simp; first | done | with_reducible rfl)); simp only [Act.put, List.setIfInBounds_toArray, List.set_cons_zero, List.set_cons_succ])
    (refine mv_val 4 (v := ?_) rfl (by kernel_rfl) (by kernel_rfl) (by kernel_rfl) (fun _ _ _ h => h) (by rfl) hS ?_ ?_; rotate_left; (focus (intro w hSw; (try dsimp only at hSw); (have f1 := (HF2.out w hSw).1; have f2 := (HF2.out w hSw).2); go_simp; first | done | with_reducible rfl)); simp only [Act.put, List.setIfInBounds_toArray, List.set_cons_zero, List.set_cons_succ])
    (refine mv_val 5 (v := ?_) rfl (by kernel_rfl) (by kernel_rfl) (by kernel_rfl) (fun _ _ _ h => h) (by rfl) hS ?_ ?_; rotate_left; (focus (intro w hSw; (try dsimp only at hSw); (have f1 := (HF2.out w hSw).1; have f2 := (HF2.out w hSw).2); go_simp; first | done | with_reducible rfl)); simp only [Act.put, List.setIfInBounds_toArray, List.set_cons_zero, List.set_cons_succ])
    (refine mv_val 6 (v := ?_) rfl (by kernel_rfl) (by kernel_rfl) (by kernel_rfl) (fun _ _ _ h => h) (by rfl) hS ?_ ?_; rotate_left; (focus (intro w hSw; (try dsimp only at hSw); (have f1 := (HF2.out w hSw).1; have f2 := (HF2.out w hSw).2); go_simp; first | done | with_reducible rfl)); simp only [Act.put, List.setIfInBounds_toArray, List.set_cons_zero, List.set_cons_succ])
    (refine mv_call 3 (f := ?_) (args := ?_) rfl (by kernel_rfl) (by rfl) ?_ ?_; rotate_left 2; (focus (go_simp; first | done | with_reducible rfl | (refine ⟨?_, ?_⟩ <;> with_reducible rfl))))
    refine (HF3.out _ hS).mono ?_; rintro e w7 ⟨A7, c7, rfl, hown7, hb7⟩
    have hS7 : Below w6.heap.size w6 w7 := hS.trans (hb7.mono hS.size)
    refine ⟨_, rfl, hS7, ?_⟩
    have hs6 := hS.size
    replace hS := hS7
    clear hS7
    have hs7 := hS.size
    simp only [Act.put, List.setIfInBounds_toArray, List.set_cons_zero, List.set_cons_succ]
    (refine mv_call 7 (f := ?_) (args := ?_) rfl (by kernel_rfl) (by rfl) ?_ ?_; rotate_left 2; (focus (go_simp; first | done | with_reducible rfl | (refine ⟨?_, ?_⟩ <;> with_reducible rfl))))
    refine (HF4.out _ hS).mono ?_; rintro e w8 ⟨A8, c8, rfl, hown8, hb8⟩
    have hS8 : Below w6.heap.size w6 w8 := hS.trans (hb8.mono hS.size)
    refine ⟨_, rfl, hS8, ?_⟩
    replace hS := hS8
    clear hS8
    have hs8 := hS.size
    have hown9 := own_lower (own_bel hown7 hb8) hs6
    simp only [Act.put, List.setIfInBounds_toArray, List.set_cons_zero, List.set_cons_succ]
    refine mv_step 8 rfl (by kernel_rfl) (by rfl) (fun K hK => ?_)
    refine wp_app El_u8 _ _ rfl hown9 rfl rfl (rd_own hown8) (by simp) (cells_one _) (by unfold maxLen; omega) (by omega) hs8 ?_; intro v9 w9 hown10 hg9 _; refine hK _ _ ?_ ?_ <;> clear hK K
    · exact hS.trans (own_below hown9 hg9 hs8)
    have hb9 : Below w6.heap.size w6 w9 := hS.trans (own_below hown9 hg9 hs8)
    replace hS := hb9
    try simp only [Act.put, List.setIfInBounds_toArray, List.set_cons_zero, List.set_cons_succ]
    (refine mv_val 9 (v := ?_) rfl (by kernel_rfl) (by kernel_rfl) (by kernel_rfl) (fun _ _ _ h => h) (by rfl) hS ?_ ?_; rotate_left; (focus (intro w hSw; (try dsimp only at hSw); (have f1 := (HF2.out w hSw).1; have f2 := (HF2.out w hSw).2); go_simp; first | done | with_reducible rfl)); simp only [Act.put, List.setIfInBounds_toArray, List.set_cons_zero, List.set_cons_succ])
    (refine mv_val 10 (v := ?_) rfl (by kernel_rfl) (by kernel_rfl) (by kernel_rfl) (fun _ _ _ h => h) (by rfl) hS ?_ ?_; rotate_left; (focus (intro w hSw; (try dsimp only at hSw); (have f1 := (HF2.out w hSw).1; have f2 := (HF2.out w hSw).2); go_simp; first | done | with_reducible rfl)); simp only [Act.put, List.setIfInBounds_toArray, List.set_cons_zero, List.set_cons_succ])
    refine wpAnyH_done (by kernel_rfl) ?_ _
    go_wp2_with fail
    go_ret2
    refine retBE_ok HE.out ?_ (hb06.trans (hb9.mono (by omega)))
    rw [← HBN.out, ← HCB.out, List.length_append, cells_append]
    exact own_lower hown10 (by omega)
  · skip
    go_simp
    refine hK _ _ ?_ ?_ <;> clear hK K
    · exact hS.alloc hS.size _
    replace hS : Below w1.heap.size w1 (w1.alloc (.cells #[.nilFunc, .nilFunc] 51)) := (Below.refl _ _).alloc (Nat.le_refl _) _
    try simp only [Act.put, List.setIfInBounds_toArray, List.set_cons_zero, List.set_cons_succ]
    (refine mv_call 0 (f := ?_) (args := ?_) rfl (by kernel_rfl) (by rfl) ?_ ?_; rotate_left 2; (focus (go_simp; first | done | with_reducible rfl | (refine ⟨?_, ?_⟩ <;> with_reducible rfl))))
    refine (cways_any _).mono ?_; rintro e w2 ⟨rfl, hm2, hb2⟩
    have hzq : (w1.alloc (.cells #[.nilFunc, .nilFunc] 51)).heap.size = w1.heap.size + 1 := by simp
    have hmq : w2.ownsMap Try.prog 5 wayE (w1.heap.size + 1) 3 ctab := by rw [← hzq]; exact hm2
    have hblk : w2.heap[w1.heap.size]? = some (.cells #[.nilFunc, .nilFunc] 51 (0, 0)) := (hb2.block w1.heap.size (by show w1.heap.size < (w1.alloc (.cells #[.nilFunc, .nilFunc] 51)).heap.size; rw [hzq]; omega)).trans (heap_alloc_new w1 _)
    have hS2 : Below w1.heap.size w1 w2 ∧ w2.ownsMap Try.prog 5 wayE (w1.heap.size + 1) 3 ctab := ⟨hS.drew.trans (hb2.mono hS.size), hmq⟩
    refine ⟨_, rfl, hS2.1, ?_⟩
    refine ah_mono (S' := fun w' => Below w1.heap.size w1 w' ∧ w'.ownsMap Try.prog 5 wayE (w1.heap.size + 1) 3 ctab) (fun _ h => h.1) _ _ _ _ ?_
    replace hS := hS2
    have hz2 : w1.heap.size + 1 ≤ w2.heap.size := by rw [← hzq]; exact hb2.size
    clear hS2 hm2 hmq hzq hb2
    simp only [Act.put, List.setIfInBounds_toArray, List.set_cons_zero, List.set_cons_succ]
    (refine mv_val 2 (v := ?_) rfl (by kernel_rfl) (by kernel_rfl) (by kernel_rfl) (fun _ _ _ h => h) (by rfl) hS ?_ ?_; rotate_left; (focus (intro w hSw; (try dsimp only at hSw); (have f1 := F1 w hSw.1; have f2 := HL.out w _ hSw.2); go_simp; first | done | with_reducible rfl)); simp only [Act.put, List.setIfInBounds_toArray, List.set_cons_zero, List.set_cons_succ])
    (refine mv_val 3 (v := ?_) rfl (by kernel_rfl) (by kernel_rfl) (by kernel_rfl) (fun _ _ _ h => h) (by rfl) hS ?_ ?_; rotate_left; (focus (intro w hSw; (try dsimp only at hSw); (have f1 := F1 w hSw.1; have f2 := HL.out w _ hSw.2); go_simp; first | done | with_reducible rfl)); simp only [Act.put, List.setIfInBounds_toArray, List.set_cons_zero, List.set_cons_succ])
    (refine mv_val 4 (v := ?_) rfl (by kernel_rfl) (by kernel_rfl) (by kernel_rfl) (fun _ _ _ h => h) (by rfl) hS ?_ ?_; rotate_left; (focus (intro w hSw; (try dsimp only at hSw); (have f1 := F1 w hSw.1; have f2 := HL.out w _ hSw.2); go_simp; first | done | with_reducible rfl)); simp only [Act.put, List.setIfInBounds_toArray, List.set_cons_zero, List.set_cons_succ])
    (refine mv_val 5 (v := ?_) rfl (by kernel_rfl) (by kernel_rfl) (by kernel_rfl) (fun _ _ _ h => h) (by rfl) hS ?_ ?_; rotate_left; (focus (intro w hSw; (try dsimp only at hSw); (have f1 := F1 w hSw.1; have f2 := HL.out w _ hSw.2); go_simp; first | done | with_reducible rfl)); simp only [Act.put, List.setIfInBounds_toArray, List.set_cons_zero, List.set_cons_succ])
    have hs0 : (store ⟨w1.heap.size, 0, none⟩ f).run Try.prog w2 = .ok () (w2.setCell ⟨w1.heap.size, 0, none⟩ f) := store_fn HF1.out (two_cells hblk).1 (two_free hblk).1
    have hs1 : (store ⟨w1.heap.size, 1, none⟩ g).run Try.prog (w2.setCell ⟨w1.heap.size, 0, none⟩ f) = .ok () ((w2.setCell ⟨w1.heap.size, 0, none⟩ f).setCell ⟨w1.heap.size, 1, none⟩ g) := store_fn HG1.out (two_cells (two_set0 hblk f)).2 (two_free (two_set0 hblk f)).2
    have hS3 : Below w1.heap.size w1 ((w2.setCell ⟨w1.heap.size, 0, none⟩ f).setCell ⟨w1.heap.size, 1, none⟩ g) ∧ ((w2.setCell ⟨w1.heap.size, 0, none⟩ f).setCell ⟨w1.heap.size, 1, none⟩ g).ownsMap Try.prog 5 wayE (w1.heap.size + 1) 3 ctab :=
      ⟨(hS.1.setCell (p := ⟨w1.heap.size, 0, none⟩) (Nat.le_refl _) f).setCell (p := ⟨w1.heap.size, 1, none⟩) (Nat.le_refl _) g, map_same hS.2 ((set_other _ _ _ _ _ (by omega)).trans (set_other _ _ _ _ _ (by omega)))⟩
    refine mv_step 7 rfl (by kernel_rfl) (by rfl) (fun K hK => ?_)
    go_simp
    refine hK _ _ ?_ ?_ <;> clear hK K
    · exact hS3
    clear hs0 hs1
    replace hS := hS3
    have d0 := (two_cells (two_set1 (two_set0 hblk f) g)).1
    try simp only [Act.put, List.setIfInBounds_toArray, List.set_cons_zero, List.set_cons_succ]
    (refine mv_val 8 (v := ?_) rfl (by kernel_rfl) (by kernel_rfl) (by kernel_rfl) (fun _ _ _ h => h) (by rfl) hS ?_ ?_; rotate_left; (focus (intro w hSw; (try dsimp only at hSw); (have f1 := F1 w hSw.1; have f2 := HL.out w _ hSw.2); go_simp; first | done | with_reducible rfl)); simp only [Act.put, List.setIfInBounds_toArray, List.set_cons_zero, List.set_cons_succ])
    refine wpAnyH_done (by kernel_rfl) ?_ _
    obtain ⟨wz, hwz⟩ : ∃ wz, wz = (w2.setCell ⟨w1.heap.size, 0, none⟩ f).setCell ⟨w1.heap.size, 1, none⟩ g := ⟨_, rfl⟩
    rw [← hwz] at hS d0 ⊢
    obtain ⟨p, hp⟩ : ∃ p, p = w1.heap.size := ⟨_, rfl⟩
    have hp1 : w1.heap.size ≤ p := by omega
    rw [← hp] at d0 ⊢
    have hbz := hS.1
    clear hwz hp hS hS3 hblk hz2
    have hzz := hbz.size
    have hb0 : Below w.heap.size w wz := hb1.trans (hbz.mono (by omega))
    have hqz0 := cell_be hq0 hbz (by show w.heap.size < _; omega)
    have hqz1 := cell_be hq1 hbz (by show w.heap.size + 1 < _; omega)
    have hrz := hr1.below (hbz.mono (by omega))
    have hpz := cell_lt d0
    clear hq0 hq1 hr1 F1 hbz hb1
    cases tb
    · have hE : cput t l = ([], 1) := by unfold cput colok; rw [← HTB.out]; rfl
      have HE := Lib.hid hE
      clear hE
      go_wp2_with fail
      go_ret2
      exact retBE_err HE.out hb0
    by_cases hlen : l.length ≤ 65536
    case neg =>
      have hlI : (65536 : Int) < (l.length : Int) := by omega
      have hE : cput t l = ([], 1) := by unfold cput colok; rw [decide_eq_false hlen]; simp
      have HE := Lib.hid hE
      clear hE hlen
      go_wp2_with fail
      go_ret2
      exact retBE_err HE.out hb0
    have hlI : ¬ ((65536 : Int) < (l.length : Int)) := by omega
    have C0 := contains1_any w.heap.size A c l 25 (.pointer (some ⟨w.heap.size, 0, none⟩)) (fun v => !rmay t v) wz hrz (by omega) hlen (fun _ _ => by kernel_rfl) (fun w' hb v hv => put1c_any w.heap.size t v (HXX.out v hv).1 (HXX.out v hv).2.1 (HXX.out v hv).2.2 w' (cell_be hqz0 hb (cell_lt hqz0)))
    obtain ⟨q, hq⟩ : ∃ q, q = l.any (fun v => !rmay t v) := ⟨_, rfl⟩
    rw [← hq] at C0
    have HC := Lib.hid C0
    have HQ := Lib.hid hq
    clear C0 hq
    go_wp2_with fail
    refine HC.out.mono ?_; rintro e w4 ⟨rfl, hb4⟩
    have hb04 : Below w.heap.size w w4 := hb0.trans (hb4.mono (by omega))
    have hall : l.all (rmay t) = !q := by rw [HQ.out, List.any_eq_not_all_not]; simp
    cases q
    case true =>
      have hE : cput t l = ([], 1) := by unfold cput colok; rw [hall]; simp
      have HE := Lib.hid hE
      clear hE hall
      go_wp2_with fail
      go_ret2
      exact retBE_err HE.out hb04
    have hE : cput t l = (bitsN l.length (nullAt l) ++ cbody t (marks l), 0) := by unfold cput colok; rw [hall, ← HTB.out, decide_eq_true hlen]; rfl
    have HE := Lib.hid hE
    have hqw0 := cell_be hqz1 hb4 (cell_lt hqz1)
    have dw0 := cell_be d0 hb4 (cell_lt d0)
    have hrw := hrz.below (hb4.mono (by omega))
    have hz4 := hb4.size
    have CL := clone_any w.heap.size A c l w4 hrw (by omega) hlen
    have HCL := Lib.hid CL
    have hml : (marks l).length ≤ 65536 := Nat.le_trans (marks_le l) hlen
    obtain ⟨fn, hfn, hent, hput⟩ := put_way HTB.out.symm (marks l) hml (fun v hv => by have := (HXX.out v (List.mem_filter.1 hv).1).2.2; omega) (HTT.out hlen)
    obtain rfl : f = .func (.func fn) #[] #[] := HF.out.trans hfn
    have HPUT := Lib.hid hput
    have hcb := HCC.out hlen
    have hbl := bits_le l.length (nullAt l)
    clear hE hall CL hput hqz0 hqz1 d0 hrz HC hfn
    go_wp2_with fail
    refine HCL.out.mono ?_; rintro e w5 ⟨A5, c5, rfl, hown5, hb5⟩
    have hz5 := hb5.size
    have DL := delete_any w4.heap.size A5 c5 l w5 hown5 hz5 hlen
    have HDL := Lib.hid DL
    clear DL
    go_wp2_with fail
    refine HDL.out.mono ?_; rintro e w6 ⟨A6, c6, rfl, hrd6, hb6⟩
    have hb46 : Below w4.heap.size w4 w6 := hb5.trans hb6
    have hqw := cell_be hqw0 hb46 (by show w.heap.size + 1 < _; omega)
    have dw := cell_be dw0 hb46 (by show p < _; omega)
    have hrw6 := hrw.below (hb46.mono (by omega))
    have hb06 : Below w.heap.size w w6 := hb04.trans (hb46.mono (by omega))
    have hz6 := hb46.size
    obtain ⟨bn, hbn⟩ : ∃ x, x = bitsN l.length (nullAt l) := ⟨_, rfl⟩
    obtain ⟨cb, hcb0⟩ : ∃ x, x = cbody t (marks l) := ⟨_, rfl⟩
    obtain ⟨mk, hmk⟩ : ∃ x, x = marks l := ⟨_, rfl⟩
    rw [← hmk] at hrd6 ⊢
    have HMK := Lib.hid hmk
    have HBN := Lib.hid hbn
    have HCB := Lib.hid hcb0
    rw [← hbn] at hbl
    rw [← hcb0] at hcb
    have F2 : ∀ w', Below w6.heap.size w6 w' → w'.cell? ⟨w.heap.size + 1, 0, none⟩ = some (.slice A l.length c) ∧ w'.cell? ⟨p, 0, none⟩ = some (.func (.func fn) #[] #[]) := fun w' h => ⟨cell_be hqw h (cell_lt hqw), cell_be dw h (cell_lt dw)⟩
    have F3 : ∀ w', Below w6.heap.size w6 w' → Calls Try.prog 30 #[.int .i64 (l.length : Int), .func (.func 31) #[] #[.pointer (some ⟨w.heap.size + 1, 0, none⟩)]] w' (RetB w' bn) := fun w' h => by
      rw [hbn]
      exact lay_any l.length hlen 31 (.pointer (some ⟨w.heap.size + 1, 0, none⟩)) (nullAt l) (fun _ _ => by kernel_rfl) w' (fun w'' h2 i hi => null1_any (w.heap.size + 1) A c i l w.heap.size w'' (cell_be (F2 w' h).1 h2 (cell_lt (F2 w' h).1)) (hrw6.below ((h.trans (h2.mono h.size)).mono (by omega))) hi)
    have F4 : ∀ w', Below w6.heap.size w6 w' → Calls Try.prog fn #[.slice A6 mk.length c6] w' (RetB w' cb) := fun w' h => by
      rw [hcb0, hmk]
      exact HPUT.out A6 c6 w' (by rw [← hmk]; exact (hrd6.below h).more h.size)
    have HF2 := Lib.hid F2
    have HF3 := Lib.hid F3
    have HF4 := Lib.hid F4
    clear F2 F3 F4 hqw dw hqw0 dw0 hrw hrw6 hbn hcb0 hmk hrd6 hown5
    go_wp2_with fail
    refine ah_start 11 (fun w' => Below w6.heap.size w6 w') rfl (by kernel_rfl) (Below.refl _ _).drew ?_ ; intro hS
    (refine mv_val 0 (v := ?_) rfl (by kernel_rfl) (by kernel_rfl) (by kernel_rfl) (fun _ _ _ h => h) (by rfl) hS ?_ ?_; rotate_left; (focus (intro w hSw; (try dsimp only at hSw); (have f1 := (HF2.out w hSw).1; have f2 := (HF2.out w hSw).2); go_simp; first | done | with_reducible rfl)); simp only [Act.put, List.setIfInBounds_toArray, List.set_cons_zero, List.set_cons_succ])
    (refine mv_val 1 (v := ?_) rfl (by kernel_rfl) (by kernel_rfl) (by kernel_rfl) (fun _ _ _ h => h) (by rfl) hS ?_ ?_; rotate_left; (focus (intro w hSw; (try dsimp only at hSw); (have f1 := (HF2.out w hSw).1; have f2 := (HF2.out w hSw).2); go_simp; first | done | with_reducible rfl)); simp only [Act.put, List.setIfInBounds_toArray, List.set_cons_zero, List.set_cons_succ])
    (refine mv_val 2 (v := ?_) rfl (by kernel_rfl) (by kernel_rfl) (by kernel_rfl) (fun _ _ _ h => h) (by rfl) hS ?_ ?_; rotate_left; (focus (intro w hSw; (try dsimp only at hSw); (have f1 := (HF2.out w hSw).1; have f2 := (HF2.out w hSw).2); go_simp; first | done | with_reducible rfl)); simp only [Act.put, List.setIfInBounds_toArray, List.set_cons_zero, List.set_cons_succ])
    (refine mv_val 4 (v := ?_) rfl (by kernel_rfl) (by kernel_rfl) (by kernel_rfl) (fun _ _ _ h => h) (by rfl) hS ?_ ?_; rotate_left; (focus (intro w hSw; (try dsimp only at hSw); (have f1 := (HF2.out w hSw).1; have f2 := (HF2.out w hSw).2); go_simp; first | done | with_reducible rfl)); simp only [Act.put, List.setIfInBounds_toArray, List.set_cons_zero, List.set_cons_succ])
    (refine mv_val 5 (v := ?_) rfl (by kernel_rfl) (by kernel_rfl) (by kernel_rfl) (fun _ _ _ h => h) (by rfl) hS ?_ ?_; rotate_left; (focus (intro w hSw; (try dsimp only at hSw); (have f1 := (HF2.out w hSw).1; have f2 := (HF2.out w hSw).2); go_simp; first | done | with_reducible rfl)); simp only [Act.put, List.setIfInBounds_toArray, List.set_cons_zero, List.set_cons_succ])
    (refine mv_val 6 (v := ?_) rfl (by kernel_rfl) (by kernel_rfl) (by kernel_rfl) (fun _ _ _ h => h) (by rfl) hS ?_ ?_; rotate_left; (focus (intro w hSw; (try dsimp only at hSw); (have f1 := (HF2.out w hSw).1; have f2 := (HF2.out w hSw).2); go_simp; first | done | with_reducible rfl)); simp only [Act.put, List.setIfInBounds_toArray, List.set_cons_zero, List.set_cons_succ])
    (refine mv_call 3 (f := ?_) (args := ?_) rfl (by kernel_rfl) (by rfl) ?_ ?_; rotate_left 2; (focus (go_simp; first | done | with_reducible rfl | (refine ⟨?_, ?_⟩ <;> with_reducible rfl))))
    refine (HF3.out _ hS).mono ?_; rintro e w7 ⟨A7, c7, rfl, hown7, hb7⟩
    have hS7 : Below w6.heap.size w6 w7 := hS.trans (hb7.mono hS.size)
    refine ⟨_, rfl, hS7, ?_⟩
    have hs6 := hS.size
    replace hS := hS7
    clear hS7
    have hs7 := hS.size
    simp only [Act.put, List.setIfInBounds_toArray, List.set_cons_zero, List.set_cons_succ]
    (refine mv_call 7 (f := ?_) (args := ?_) rfl (by kernel_rfl) (by rfl) ?_ ?_; rotate_left 2; (focus (go_simp; first | done | with_reducible rfl | (refine ⟨?_, ?_⟩ <;> with_reducible rfl))))
    refine (HF4.out _ hS).mono ?_; rintro e w8 ⟨A8, c8, rfl, hown8, hb8⟩
    have hS8 : Below w6.heap.size w6 w8 := hS.trans (hb8.mono hS.size)
    refine ⟨_, rfl, hS8, ?_⟩
    replace hS := hS8
    clear hS8
    have hs8 := hS.size
    have hown9 := own_lower (own_bel hown7 hb8) hs6
    simp only [Act.put, List.setIfInBounds_toArray, List.set_cons_zero, List.set_cons_succ]
    refine mv_step 8 rfl (by kernel_rfl) (by rfl) (fun K hK => ?_)
    refine wp_app El_u8 _ _ rfl hown9 rfl rfl (rd_own hown8) (by simp) (cells_one _) (by unfold maxLen; omega) (by omega) hs8 ?_; intro v9 w9 hown10 hg9 _; refine hK _ _ ?_ ?_ <;> clear hK K
    · exact hS.trans (own_below hown9 hg9 hs8)
    have hb9 : Below w6.heap.size w6 w9 := hS.trans (own_below hown9 hg9 hs8)
    replace hS := hb9
    try simp only [Act.put, List.setIfInBounds_toArray, List.set_cons_zero, List.set_cons_succ]
    (refine mv_val 9 (v := ?_) rfl (by kernel_rfl) (by kernel_rfl) (by kernel_rfl) (fun _ _ _ h => h) (by rfl) hS ?_ ?_; rotate_left; (focus (intro w hSw; (try dsimp only at hSw); (have f1 := (HF2.out w hSw).1; have f2 := (HF2.out w hSw).2); go_simp; first | done | with_reducible rfl)); simp only [Act.put, List.setIfInBounds_toArray, List.set_cons_zero, List.set_cons_succ])
    (refine mv_val 10 (v := ?_) rfl (by kernel_rfl) (by kernel_rfl) (by kernel_rfl) (fun _ _ _ h => h) (by rfl) hS ?_ ?_; rotate_left; (focus (intro w hSw; (try dsimp only at hSw); (have f1 := (HF2.out w hSw).1; have f2 := (HF2.out w hSw).2); go_simp; first | done | with_reducible rfl)); simp only [Act.put, List.setIfInBounds_toArray, List.set_cons_zero, List.set_cons_succ])
    refine wpAnyH_done (by kernel_rfl) ?_ _
    go_wp2_with fail
    go_ret2
    refine retBE_ok HE.out ?_ (hb06.trans (hb9.mono (by omega)))
    rw [← HBN.out, ← HCB.out, List.length_append, cells_append]
    exact own_lower hown10 (by omega)
end Go.Proofs.Ytiijnfakphhbeaa

/- Joined texts: see the remark ahead of each part. No condition but those that the parts name. -/
import Derived.Test.YthkpgjcnnfdibaaCoD
import Derived.Test.YthkpgjcnnfdibaaCoC
/-! The walk of column.Put (layer 6); printed by gen_col13.py. For texts of at most 1000000 bytes each. -/
namespace Go.Proofs.Ythkpgjcnnfdibaa
open Go.RowKit Go.Maps
set_option linter.unusedVariables false
set_option linter.unusedSimpArgs false

theorem two_set0 {w : World} {k : Nat} {v0 v1 : Value} {t : TypeId} (h : w.heap[k]? = some (.cells #[v0, v1] t (0, 0))) (x : Value) :
    (w.setCell ⟨k, 0, none⟩ x).heap[k]? = some (.cells #[x, v1] t (0, 0)) := by
  have hlt := lt_of_block h
  have h' : w.heap[k] = .cells #[v0, v1] t (0, 0) := by simpa [Array.getElem?_eq_getElem hlt] using h
  show (w.heap.modify k _)[k]? = _
  rw [Array.getElem?_eq_getElem (by simpa using hlt), Array.getElem_modify_self, h']
  rfl
theorem two_set1 {w : World} {k : Nat} {v0 v1 : Value} {t : TypeId} (h : w.heap[k]? = some (.cells #[v0, v1] t (0, 0))) (x : Value) :
    (w.setCell ⟨k, 1, none⟩ x).heap[k]? = some (.cells #[v0, x] t (0, 0)) := by
  have hlt := lt_of_block h
  have h' : w.heap[k] = .cells #[v0, v1] t (0, 0) := by simpa [Array.getElem?_eq_getElem hlt] using h
  show (w.heap.modify k _)[k]? = _
  rw [Array.getElem?_eq_getElem (by simpa using hlt), Array.getElem_modify_self, h']
  rfl
theorem two_cells {w : World} {k : Nat} {v0 v1 : Value} {t : TypeId} (h : w.heap[k]? = some (.cells #[v0, v1] t (0, 0))) : w.cell? ⟨k, 0, none⟩ = some v0 ∧ w.cell? ⟨k, 1, none⟩ = some v1 := by
  refine ⟨?_, ?_⟩ <;> simp [World.cell?, h]
theorem two_free {w : World} {k : Nat} {v0 v1 : Value} {t : TypeId} (h : w.heap[k]? = some (.cells #[v0, v1] t (0, 0))) : w.frozen? ⟨k, 0, none⟩ = false ∧ w.frozen? ⟨k, 1, none⟩ = false := by
  refine ⟨?_, ?_⟩ <;> simp [World.frozen?, h]

theorem set_other (w : World) (k o b : Nat) (x : Value) (h : b ≠ k) : (w.setCell ⟨k, o, none⟩ x).heap[b]? = w.heap[b]? := by
  show (w.heap.modify k _)[b]? = _
  rw [Array.getElem?_modify, if_neg (fun e => h e.symm)]
theorem store_fn {f : Value} (hf : f.oneCell' = true) {W : World} {b o : Nat} {u : Value} (h : W.cell? ⟨b, o, none⟩ = some u) (hz : W.frozen? ⟨b, o, none⟩ = false) : (store ⟨b, o, none⟩ f).run Try.prog W = .ok () (W.setCell ⟨b, o, none⟩ f) := by
  rw [run_store _ _ _ _ _ hf]; simp [go_sem, h, hz]
theorem cputF_one (t : Nat) : (cputF t).oneCell' = true := by unfold cputF; split; rfl; split; rfl; split <;> rfl
theorem cgetF_one (t : Nat) : (cgetF t).oneCell' = true := by unfold cgetF; split; rfl; split; rfl; split <;> rfl

theorem bits_le (n : Nat) (p : Nat → Bool) : (bitsN n p).length ≤ n + 1 := by rw [bitsN_len]; unfold size8; omega
theorem flat_snd (l : List V) (f : V → List UInt8) (m : Nat) (h : ∀ v ∈ l, (f v).length ≤ m) : (l.flatMap f).length ≤ l.length * m := by
  induction l with
  | nil => simp
  | cons v l ih =>
    have h1 := ih (fun u hu => h u (List.mem_cons_of_mem _ hu))
    have h2 := h v List.mem_cons_self
    rw [List.flatMap_cons, List.length_append, List.length_cons, Nat.succ_mul]; omega

set_option maxHeartbeats 8000000 in
set_option maxRecDepth 100000 in
theorem cput_any (t : UInt8) (A : Option Addr) (c : Nat) (l : List V) (w : World) (hr : Rd w w.heap.size A (vcells l)) (hx : ∀ v ∈ l, v.k < 256 ∧ i64r v.n ∧ v.t.length ≤ 1000000) (hl63 : l.length ≤ 4611686018427)
    (hT : l.length ≤ 65536 → ((words (marks l)).flatMap wbytes).length ≤ 4000000000) (hC : l.length ≤ 65536 → (cbody t (marks l)).length ≤ 4611686018) :
    Calls Try.prog 31 #[b8 t, .slice A l.length c] w (RetBE w (cput t l)) := by
  have HXX := Lib.hid hx
  have HTT := Lib.hid hT
  have HCC := Lib.hid hC
  obtain ⟨tb, htb⟩ : ∃ tb, tb = tyok t := ⟨_, rfl⟩
  have HTB := Lib.hid htb
  obtain ⟨w1, hw1⟩ : ∃ w1, w1 = (w.alloc (.cells #[b8 t] 5)).alloc (.cells #[.slice A l.length c] 37) := ⟨_, rfl⟩
  have hz1 : w.heap.size + 1 < w1.heap.size := by rw [hw1]; simp
  have hb1 : Below w.heap.size w w1 := by rw [hw1]; exact ((Below.refl _ _).alloc (Nat.le_refl _) _).alloc (by simp) _
  have hq0 : w1.cell? ⟨w.heap.size, 0, none⟩ = some (b8 t) := by rw [hw1]; simp [go_sem]
  have hq1 : w1.cell? ⟨w.heap.size + 1, 0, none⟩ = some (.slice A l.length c) := by rw [hw1]; simp [go_sem]
  obtain ⟨f, hf⟩ : ∃ f, f = cputF t.toNat := ⟨_, rfl⟩
  obtain ⟨g, hg⟩ : ∃ g, g = cgetF t.toNat := ⟨_, rfl⟩
  have HF := Lib.hid hf
  have hf1 : f.oneCell' = true := by rw [hf]; exact cputF_one _
  have hg1 : g.oneCell' = true := by rw [hg]; exact cgetF_one _
  have HF1 := Lib.hid hf1
  have HG1 := Lib.hid hg1
  have hlook : ∀ (W : World) (b : Nat), W.ownsMap Try.prog 5 wayE b 3 ctab → (Instr.lookup 86 (.map (some b)) (b8 t) true).run Try.prog W = .ok (.tuple #[.agg #[f, g], .bool tb]) W := fun W b h => by rw [hf, hg, htb]; exact clook h t
  have HL := Lib.hid hlook
  clear hx hT hC htb hf hg hf1 hg1 hlook
  have hr1 := hr.below hb1
  clear hr
  go_enter Try.func31, Try.ntmps31
  go_wp2_with fail
  rw [← hw1]
  have F1 : ∀ w', Below w1.heap.size w1 w' → w'.cell? ⟨w.heap.size, 0, none⟩ = some (b8 t) := fun w' h => cell_be hq0 h (by show w.heap.size < _; omega)
  clear hw1
  refine ah_start 9 (fun w' => Below w1.heap.size w1 w') rfl (by kernel_rfl) (Below.refl _ _).drew ?_ ; intro hS
  (refine mv_val 1 (v := ?_) rfl (by kernel_rfl) (by kernel_rfl) (by kernel_rfl) (fun _ _ _ h => h) (by rfl) hS ?_ ?_; rotate_left; (focus (intro w hSw; (try dsimp only at hSw); (have f1 := F1 w hSw); go_simp; first | done | with_reducible rfl)); simp only [Act.put, List.setIfInBounds_toArray, List.set_cons_zero, List.set_cons_succ])
  refine mv_two 0 6 rfl rfl (by kernel_rfl) (by rfl) (by rfl) (fun K hK => ?_) (fun K hK => ?_)
  · skip
    (refine wp_enter (f := ?_) (args := ?_) hK ?_ ?_; rotate_left 2; (focus (go_simp; first | done | with_reducible rfl | (refine ⟨?_, ?_⟩ <;> with_reducible rfl))); clear hK K)
    refine (cways_any _).mono ?_; rintro e w2 ⟨rfl, hm2, hb2⟩
    have hS2 : Below w1.heap.size w1 w2 ∧ w2.ownsMap Try.prog 5 wayE w1.heap.size 3 ctab := ⟨hS.trans (hb2.mono hS.size), hm2⟩
    refine ⟨_, rfl, hS2.1, ?_⟩
    refine ah_mono (S' := fun w' => Below w1.heap.size w1 w' ∧ w'.ownsMap Try.prog 5 wayE w1.heap.size 3 ctab) (fun _ h => h.1) _ _ _ _ ?_
    replace hS := hS2
    clear hS2
    simp only [Act.put, List.setIfInBounds_toArray, List.set_cons_zero, List.set_cons_succ]
    (refine mv_val 2 (v := ?_) rfl (by kernel_rfl) (by kernel_rfl) (by kernel_rfl) (fun _ _ _ h => h) (by rfl) hS ?_ ?_; rotate_left; (focus (intro w hSw; (try dsimp only at hSw); (have f1 := F1 w hSw.1; have f2 := HL.out w _ hSw.2); go_simp; first | done | with_reducible rfl)); simp only [Act.put, List.setIfInBounds_toArray, List.set_cons_zero, List.set_cons_succ])
    (refine mv_val 3 (v := ?_) rfl (by kernel_rfl) (by kernel_rfl) (by kernel_rfl) (fun _ _ _ h => h) (by rfl) hS ?_ ?_; rotate_left; (focus (intro w hSw; (try dsimp only at hSw); (have f1 := F1 w hSw.1; have f2 := HL.out w _ hSw.2); go_simp; first | done | with_reducible rfl)); simp only [Act.put, List.setIfInBounds_toArray, List.set_cons_zero, List.set_cons_succ])
    (refine mv_val 4 (v := ?_) rfl (by kernel_rfl) (by kernel_rfl) (by kernel_rfl) (fun _ _ _ h => h) (by rfl) hS ?_ ?_; rotate_left; (focus (intro w hSw; (try dsimp only at hSw); (have f1 := F1 w hSw.1; have f2 := HL.out w _ hSw.2); go_simp; first | done | with_reducible rfl)); simp only [Act.put, List.setIfInBounds_toArray, List.set_cons_zero, List.set_cons_succ])
    (refine mv_val 5 (v := ?_) rfl (by kernel_rfl) (by kernel_rfl) (by kernel_rfl) (fun _ _ _ h => h) (by rfl) hS ?_ ?_; rotate_left; (focus (intro w hSw; (try dsimp only at hSw); (have f1 := F1 w hSw.1; have f2 := HL.out w _ hSw.2); go_simp; first | done | with_reducible rfl)); simp only [Act.put, List.setIfInBounds_toArray, List.set_cons_zero, List.set_cons_succ])
    refine mv_step 6 rfl (by kernel_rfl) (by rfl) (fun K hK => ?_)
    go_simp
    refine hK _ _ ?_ ?_ <;> clear hK K
    · exact ⟨hS.1.alloc hS.1.size _, hS.2.alloc _⟩
    have hSold := hS
    replace hS : Below w1.heap.size w1 (w2.alloc (.cells #[.nilFunc, .nilFunc] 84)) ∧ (w2.alloc (.cells #[.nilFunc, .nilFunc] 84)).ownsMap Try.prog 5 wayE w1.heap.size 3 ctab := ⟨hSold.1.alloc hSold.1.size _, hSold.2.alloc _⟩
    try simp only [Act.put, List.setIfInBounds_toArray, List.set_cons_zero, List.set_cons_succ]
    have hs0 : (store ⟨w2.heap.size, 0, none⟩ f).run Try.prog (w2.alloc (.cells #[.nilFunc, .nilFunc] 84)) = .ok () (w2.alloc (.cells #[f, .nilFunc] 84)) := by
      rw [store_fn HF1.out (u := .nilFunc) (by simp [go_sem]) (by simp [go_sem])]; simp [go_sem]
    have hs1 : (store ⟨w2.heap.size, 1, none⟩ g).run Try.prog (w2.alloc (.cells #[f, .nilFunc] 84)) = .ok () (w2.alloc (.cells #[f, g] 84)) := by
      rw [store_fn HG1.out (u := .nilFunc) (by simp [go_sem]) (by simp [go_sem])]; simp [go_sem]
    refine mv_step 7 rfl (by kernel_rfl) (by rfl) (fun K hK => ?_)
    go_simp
    refine hK _ _ ?_ ?_ <;> clear hK K
    · exact ⟨hSold.1.alloc hSold.1.size _, hSold.2.alloc _⟩
    clear hs0 hs1
    replace hS : Below w1.heap.size w1 (w2.alloc (.cells #[f, g] 84)) ∧ (w2.alloc (.cells #[f, g] 84)).ownsMap Try.prog 5 wayE w1.heap.size 3 ctab := ⟨hSold.1.alloc hSold.1.size _, hSold.2.alloc _⟩
    try simp only [Act.put, List.setIfInBounds_toArray, List.set_cons_zero, List.set_cons_succ]
    (refine mv_val 8 (v := ?_) rfl (by kernel_rfl) (by kernel_rfl) (by kernel_rfl) (fun _ _ _ h => h) (by rfl) hS ?_ ?_; rotate_left; (focus (intro w hSw; (try dsimp only at hSw); (have f1 := F1 w hSw.1; have f2 := HL.out w _ hSw.2); go_simp; first | done | with_reducible rfl)); simp only [Act.put, List.setIfInBounds_toArray, List.set_cons_zero, List.set_cons_succ])
    refine wpAnyH_done (by kernel_rfl) ?_ _
    obtain ⟨p, hp⟩ : ∃ p, p = w2.heap.size := ⟨_, rfl⟩
    have hp1 : w1.heap.size ≤ p := by rw [hp]; exact hSold.1.size
    have d0 : (w2.alloc (.cells #[f, g] 84)).cell? ⟨p, 0, none⟩ = some f := by rw [hp]; simp [go_sem]
    obtain ⟨wz, hwz⟩ : ∃ wz, wz = w2.alloc (.cells #[f, g] 84) := ⟨_, rfl⟩
    rw [← hwz] at hS d0 ⊢
    rw [← hp]
    have hbz := hS.1
    clear hwz hSold hp hb2 hm2 hS
    have hzz := hbz.size
    have hb0 : Below w.heap.size w wz := hb1.trans (hbz.mono (by omega))
    have hqz0 := cell_be hq0 hbz (by show w.heap.size < _; omega)
    have hqz1 := cell_be hq1 hbz (by show w.heap.size + 1 < _; omega)
    have hrz := hr1.below (hbz.mono (by omega))
    have hpz := cell_lt d0
    clear hq0 hq1 hr1 F1 hbz hb1
    cases tb
    · have hE : cput t l = ([], 1) := by unfold cput colok; rw [← HTB.out]; rfl
      have HE := Lib.hid hE
      clear hE
      go_wp2_with fail
      go_ret2
      exact retBE_err HE.out hb0
    by_cases hlen : l.length ≤ 65536
    case neg =>
      have hlI : (65536 : Int) < (l.length : Int) := by omega
      have hE : cput t l = ([], 1) := by unfold cput colok; rw [decide_eq_false hlen]; simp
      have HE := Lib.hid hE
      clear hE hlen
      go_wp2_with fail
      go_ret2
      exact retBE_err HE.out hb0
    have hlI : ¬ ((65536 : Int) < (l.length : Int)) := by omega
    have C0 := contains1_any w.heap.size A c l 49 (.pointer (some ⟨w.heap.size, 0, none⟩)) (fun v => !rmay t v) wz hrz (by omega) hlen (fun _ _ => by kernel_rfl) (fun w' hb v hv => put1c_any w.heap.size t v (HXX.out v hv).1 (HXX.out v hv).2.1 (HXX.out v hv).2.2 w' (cell_be hqz0 hb (cell_lt hqz0)))
    obtain ⟨q, hq⟩ : ∃ q, q = l.any (fun v => !rmay t v) := ⟨_, rfl⟩
    rw [← hq] at C0
    have HC := Lib.hid C0
    have HQ := Lib.hid hq
    clear C0 hq
    go_wp2_with fail
    refine HC.out.mono ?_; rintro e w4 ⟨rfl, hb4⟩
    have hb04 : Below w.heap.size w w4 := hb0.trans (hb4.mono (by omega))
    have hall : l.all (rmay t) = !q := by rw [HQ.out, List.any_eq_not_all_not]; simp
    cases q
    case true =>
      have hE : cput t l = ([], 1) := by unfold cput colok; rw [hall]; simp
      have HE := Lib.hid hE
      clear hE hall
      go_wp2_with fail
      go_ret2
      exact retBE_err HE.out hb04
    have hE : cput t l = (bitsN l.length (nullAt l) ++ cbody t (marks l), 0) := by unfold cput colok; rw [hall, ← HTB.out, decide_eq_true hlen]; rfl
    have HE := Lib.hid hE
    have hqw0 := cell_be hqz1 hb4 (cell_lt hqz1)
    have dw0 := cell_be d0 hb4 (cell_lt d0)
    have hrw := hrz.below (hb4.mono (by omega))
    have hz4 := hb4.size
    have CL := clone_any w.heap.size A c l w4 hrw (by omega) hlen
    have HCL := Lib.hid CL
    have hml : (marks l).length ≤ 65536 := Nat.le_trans (marks_le l) hlen
    obtain ⟨fn, hfn, hent, hput⟩ := put_way HTB.out.symm (marks l) hml (fun v hv => by have := (HXX.out v (List.mem_filter.1 hv).1).2.2; omega) (HTT.out hlen)
    obtain rfl : f = .func (.func fn) #[] #[] := HF.out.trans hfn
    have HPUT := Lib.hid hput
    have hcb := HCC.out hlen
    have hbl := bits_le l.length (nullAt l)
    clear hE hall CL hput hqz0 hqz1 d0 hrz HC hfn
    go_wp2_with fail
    refine HCL.out.mono ?_; rintro e w5 ⟨A5, c5, rfl, hown5, hb5⟩
    have hz5 := hb5.size
    have DL := delete_any w4.heap.size A5 c5 l w5 hown5 hz5 hlen
    have HDL := Lib.hid DL
    clear DL
    go_wp2_with fail
    refine HDL.out.mono ?_; rintro e w6 ⟨A6, c6, rfl, hrd6, hb6⟩
    have hb46 : Below w4.heap.size w4 w6 := hb5.trans hb6
    have hqw := cell_be hqw0 hb46 (by show w.heap.size + 1 < _; omega)
    have dw := cell_be dw0 hb46 (by show p < _; omega)
    have hrw6 := hrw.below (hb46.mono (by omega))
    have hb06 : Below w.heap.size w w6 := hb04.trans (hb46.mono (by omega))
    have hz6 := hb46.size
    obtain ⟨bn, hbn⟩ : ∃ x, x = bitsN l.length (nullAt l) := ⟨_, rfl⟩
    obtain ⟨cb, hcb0⟩ : ∃ x, x = cbody t (marks l) := ⟨_, rfl⟩
    obtain ⟨mk, hmk⟩ : ∃ x, x = marks l := ⟨_, rfl⟩
    rw [← hmk] at hrd6 ⊢
    have HMK := Lib.hid hmk
    have HBN := Lib.hid hbn
    have HCB := Lib.hid hcb0
    rw [← hbn] at hbl
    rw [← hcb0] at hcb
    have F2 : ∀ w', Below w6.heap.size w6 w' → w'.cell? ⟨w.heap.size + 1, 0, none⟩ = some (.slice A l.length c) ∧ w'.cell? ⟨p, 0, none⟩ = some (.func (.func fn) #[] #[]) := fun w' h => ⟨cell_be hqw h (cell_lt hqw), cell_be dw h (cell_lt dw)⟩
    have F3 : ∀ w', Below w6.heap.size w6 w' → Calls Try.prog 54 #[.int .i64 (l.length : Int), .func (.func 55) #[] #[.pointer (some ⟨w.heap.size + 1, 0, none⟩)]] w' (RetB w' bn) := fun w' h => by
      rw [hbn]
      exact lay_any l.length hlen 55 (.pointer (some ⟨w.heap.size + 1, 0, none⟩)) (nullAt l) (fun _ _ => by kernel_rfl) w' (fun w'' h2 i hi => null1_any (w.heap.size + 1) A c i l w.heap.size w'' (cell_be (F2 w' h).1 h2 (cell_lt (F2 w' h).1)) (hrw6.below ((h.trans (h2.mono h.size)).mono (by omega))) hi)
    have F4 : ∀ w', Below w6.heap.size w6 w' → Calls Try.prog fn #[.slice A6 mk.length c6] w' (RetB w' cb) := fun w' h => by
      rw [hcb0, hmk]
      exact HPUT.out A6 c6 w' (by rw [← hmk]; exact (hrd6.below h).more h.size)
    have HF2 := Lib.hid F2
    have HF3 := Lib.hid F3
    have HF4 := Lib.hid F4
    clear F2 F3 F4 hqw dw hqw0 dw0 hrw hrw6 hbn hcb0 hmk hrd6 hown5
    go_wp2_with fail
    refine ah_start 11 (fun w' => Below w6.heap.size w6 w') rfl (by kernel_rfl) (Below.refl _ _).drew ?_ ; intro hS
    (refine mv_val 0 (v := ?_) rfl (by kernel_rfl) (by kernel_rfl) (by kernel_rfl) (fun _ _ _ h => h) (by rfl) hS ?_ ?_; rotate_left; (focus (intro w hSw; (try dsimp only at hSw); (have f1 := (HF2.out w hSw).1; have f2 := (HF2.out w hSw).2); go_simp; first | done | with_reducible rfl)); simp only [Act.put, List.setIfInBounds_toArray, List.set_cons_zero, List.set_cons_succ])
    (refine mv_val 1 (v := ?_) rfl (by kernel_rfl) (by kernel_rfl) (by kernel_rfl) (fun _ _ _ h => h) (by rfl) hS ?_ ?_; rotate_left; (focus (intro w hSw; (try dsimp only at hSw); (have f1 := (HF2.out w hSw).1; have f2 := (HF2.out w hSw).2); go_simp; first | done | with_reducible rfl)); simp only [Act.put, List.setIfInBounds_toArray, List.set_cons_zero, List.set_cons_succ])
    (refine mv_val 2 (v := ?_) rfl (by kernel_rfl) (by kernel_rfl) (by kernel_rfl) (fun _ _ _ h => h) (by rfl) hS ?_ ?_; rotate_left; (focus (intro w hSw; (try dsimp only at hSw); (have f1 := (HF2.out w hSw).1; have f2 := (HF2.out w hSw).2); go_simp; first | done | with_reducible rfl)); simp only [Act.put, List.setIfInBounds_toArray, List.set_cons_zero, List.set_cons_succ])
    (refine mv_val 4 (v := ?_) rfl (by kernel_rfl) (by kernel_rfl) (by kernel_rfl) (fun _ _ _ h => h) (by rfl) hS ?_ ?_; rotate_left; (focus (intro w hSw; (try dsimp only at hSw); (have f1 := (HF2.out w hSw).1; have f2 := (HF2.out w hSw).2); go_simp; first | done | with_reducible rfl)); simp only [Act.put, List.setIfInBounds_toArray, List.set_cons_zero, List.set_cons_succ])
    (refine mv_val 5 (v := ?_) rfl (by kernel_rfl) (by kernel_rfl) (by kernel_rfl) (fun _ _ _ h => h) (by rfl) hS ?_ ?_; rotate_left; (focus (intro w hSw; (try dsimp only at hSw); (have f1 := (HF2.out w hSw).1; have f2 := (HF2.out w hSw).2); go_simp; first | done | with_reducible rfl)); simp only [Act.put, List.setIfInBounds_toArray, List.set_cons_zero, List.set_cons_succ])
    (refine mv_val 6 (v := ?_) rfl (by kernel_rfl) (by kernel_rfl) (by kernel_rfl) (fun _ _ _ h => h) (by rfl) hS ?_ ?_; rotate_left; (focus (intro w hSw; (try dsimp only at hSw); (have f1 := (HF2.out w hSw).1; have f2 := (HF2.out w hSw).2); go_simp; first | done | with_reducible rfl)); simp only [Act.put, List.setIfInBounds_toArray, List.set_cons_zero, List.set_cons_succ])
    (refine mv_call 3 (f := ?_) (args := ?_) rfl (by kernel_rfl) (by rfl) ?_ ?_; rotate_left 2; (focus (go_simp; first | done | with_reducible rfl | (refine ⟨?_, ?_⟩ <;> with_reducible rfl))))
    refine (HF3.out _ hS).mono ?_; rintro e w7 ⟨A7, c7, rfl, hown7, hb7⟩
    have hS7 : Below w6.heap.size w6 w7 := hS.trans (hb7.mono hS.size)
    refine ⟨_, rfl, hS7, ?_⟩
    have hs6 := hS.size
    replace hS := hS7
    clear hS7
    have hs7 := hS.size
    simp only [Act.put, List.setIfInBounds_toArray, List.set_cons_zero, List.set_cons_succ]
    (refine mv_call 7 (f := ?_) (args := ?_) rfl (by kernel_rfl) (by rfl) ?_ ?_; rotate_left 2; (focus (go_simp; first | done | with_reducible rfl | (refine ⟨?_, ?_⟩ <;> with_reducible rfl))))
    refine (HF4.out _ hS).mono ?_; rintro e w8 ⟨A8, c8, rfl, hown8, hb8⟩
    have hS8 : Below w6.heap.size w6 w8 := hS.trans (hb8.mono hS.size)
    refine ⟨_, rfl, hS8, ?_⟩
    replace hS := hS8
    clear hS8
    have hs8 := hS.size
    have hown9 := own_lower (own_bel hown7 hb8) hs6
    simp only [Act.put, List.setIfInBounds_toArray, List.set_cons_zero, List.set_cons_succ]
    refine mv_step 8 rfl (by kernel_rfl) (by rfl) (fun K hK => ?_)
    refine wp_app El_u8 _ _ rfl hown9 rfl rfl (rd_own hown8) (by simp) (cells_one _) (by unfold maxLen; omega) (by omega) hs8 ?_; intro v9 w9 hown10 hg9 _; refine hK _ _ ?_ ?_ <;> clear hK K
    · exact hS.trans (own_below hown9 hg9 hs8)
    have hb9 : Below w6.heap.size w6 w9 := hS.trans (own_below hown9 hg9 hs8)
    replace hS := hb9
    try simp only [Act.put, List.setIfInBounds_toArray, List.set_cons_zero, List.set_cons_succ]
    (refine mv_val 9 (v := ?_) rfl (by kernel_rfl) (by kernel_rfl) (by kernel_rfl) (fun _ _ _ h => h) (by rfl) hS ?_ ?_; rotate_left; (focus (intro w hSw; (try dsimp only at hSw); (have f1 := (HF2.out w hSw).1; have f2 := (HF2.out w hSw).2); go_simp; first | done | with_reducible rfl)); simp only [Act.put, List.setIfInBounds_toArray, List.set_cons_zero, List.set_cons_succ])
    (refine mv_val 10 (v := ?_) rfl (by kernel_rfl) (by kernel_rfl) (by kernel_rfl) (fun _ _ _ h => h) (by rfl) hS ?_ ?_; rotate_left; (focus (intro w hSw; (try dsimp only at hSw); (have f1 := (HF2.out w hSw).1; have f2 := (HF2.out w hSw).2); go_simp; first | done | with_reducible rfl)); simp only [Act.put, List.setIfInBounds_toArray, List.set_cons_zero, List.set_cons_succ])
    refine wpAnyH_done (by kernel_rfl) ?_ _
    go_wp2_with fail
    go_ret2
    refine retBE_ok HE.out ?_ (hb06.trans (hb9.mono (by omega)))
    rw [← HBN.out, ← HCB.out, List.length_append, cells_append]
    exact own_lower hown10 (by omega)
  · skip
    go_simp
    refine hK _ _ ?_ ?_ <;> clear hK K
    · exact hS.alloc hS.size _
    replace hS : Below w1.heap.size w1 (w1.alloc (.cells #[.nilFunc, .nilFunc] 84)) := (Below.refl _ _).alloc (Nat.le_refl _) _
    try simp only [Act.put, List.setIfInBounds_toArray, List.set_cons_zero, List.set_cons_succ]
    (refine mv_call 0 (f := ?_) (args := ?_) rfl (by kernel_rfl) (by rfl) ?_ ?_; rotate_left 2; (focus (go_simp; first | done | with_reducible rfl | (refine ⟨?_, ?_⟩ <;> with_reducible rfl))))
    refine (cways_any _).mono ?_; rintro e w2 ⟨rfl, hm2, hb2⟩
    have hzq : (w1.alloc (.cells #[.nilFunc, .nilFunc] 84)).heap.size = w1.heap.size + 1 := by simp
    have hmq : w2.ownsMap Try.prog 5 wayE (w1.heap.size + 1) 3 ctab := by rw [← hzq]; exact hm2
    have hblk : w2.heap[w1.heap.size]? = some (.cells #[.nilFunc, .nilFunc] 84 (0, 0)) := (hb2.block w1.heap.size (by show w1.heap.size < (w1.alloc (.cells #[.nilFunc, .nilFunc] 84)).heap.size; rw [hzq]; omega)).trans (heap_alloc_new w1 _)
    have hS2 : Below w1.heap.size w1 w2 ∧ w2.ownsMap Try.prog 5 wayE (w1.heap.size + 1) 3 ctab := ⟨hS.drew.trans (hb2.mono hS.size), hmq⟩
    refine ⟨_, rfl, hS2.1, ?_⟩
    refine ah_mono (S' := fun w' => Below w1.heap.size w1 w' ∧ w'.ownsMap Try.prog 5 wayE (w1.heap.size + 1) 3 ctab) (fun _ h => h.1) _ _ _ _ ?_
    replace hS := hS2
    have hz2 : w1.heap.size + 1 ≤ w2.heap.size := by rw [← hzq]; exact hb2.size
    clear hS2 hm2 hmq hzq hb2
    simp only [Act.put, List.setIfInBounds_toArray, List.set_cons_zero, List.set_cons_succ]
    (refine mv_val 2 (v := ?_) rfl (by kernel_rfl) (by kernel_rfl) (by kernel_rfl) (fun _ _ _ h => h) (by rfl) hS ?_ ?_; rotate_left; (focus (intro w hSw; (try dsimp only at hSw); (have f1 := F1 w hSw.1; have f2 := HL.out w _ hSw.2); go_simp; first | done | with_reducible rfl)); simp only [Act.put, List.setIfInBounds_toArray, List.set_cons_zero, List.set_cons_succ])
    (refine mv_val 3 (v := ?_) rfl (by kernel_rfl) (by kernel_rfl) (by kernel_rfl) (fun _ _ _ h => h) (by rfl) hS ?_ ?_; rotate_left; (focus (intro w hSw; (try dsimp only at hSw); (have f1 := F1 w hSw.1; have f2 := HL.out w _ hSw.2); go_simp; first | done | with_reducible rfl)); simp only [Act.put, List.setIfInBounds_toArray, List.set_cons_zero, List.set_cons_succ])
    (refine mv_val 4 (v := ?_) rfl (by kernel_rfl) (by kernel_rfl) (by kernel_rfl) (fun _ _ _ h => h) (by rfl) hS ?_ ?_; rotate_left; (focus (intro w hSw; (try dsimp only at hSw); (have f1 := F1 w hSw.1; have f2 := HL.out w _ hSw.2); go_simp; first | done | with_reducible rfl)); simp only [Act.put, List.setIfInBounds_toArray, List.set_cons_zero, List.set_cons_succ])
    (refine mv_val 5 (v := ?_) rfl (by kernel_rfl) (by kernel_rfl) (by kernel_rfl) (fun _ _ _ h => h) (by rfl) hS ?_ ?_; rotate_left; (focus (intro w hSw; (try dsimp only at hSw); (have f1 := F1 w hSw.1; have f2 := HL.out w _ hSw.2); go_simp; first | done | with_reducible rfl)); simp only [Act.put, List.setIfInBounds_toArray, List.set_cons_zero, List.set_cons_succ])
    have hs0 : (store ⟨w1.heap.size, 0, none⟩ f).run Try.prog w2 = .ok () (w2.setCell ⟨w1.heap.size, 0, none⟩ f) := store_fn HF1.out (two_cells hblk).1 (two_free hblk).1
    have hs1 : (store ⟨w1.heap.size, 1, none⟩ g).run Try.prog (w2.setCell ⟨w1.heap.size, 0, none⟩ f) = .ok () ((w2.setCell ⟨w1.heap.size, 0, none⟩ f).setCell ⟨w1.heap.size, 1, none⟩ g) := store_fn HG1.out (two_cells (two_set0 hblk f)).2 (two_free (two_set0 hblk f)).2
    have hS3 : Below w1.heap.size w1 ((w2.setCell ⟨w1.heap.size, 0, none⟩ f).setCell ⟨w1.heap.size, 1, none⟩ g) ∧ ((w2.setCell ⟨w1.heap.size, 0, none⟩ f).setCell ⟨w1.heap.size, 1, none⟩ g).ownsMap Try.prog 5 wayE (w1.heap.size + 1) 3 ctab :=
      ⟨(hS.1.setCell (p := ⟨w1.heap.size, 0, none⟩) (Nat.le_refl _) f).setCell (p := ⟨w1.heap.size, 1, none⟩) (Nat.le_refl _) g, map_same hS.2 ((set_other _ _ _ _ _ (by omega)).trans (set_other _ _ _ _ _ (by omega)))⟩
    refine mv_step 7 rfl (by kernel_rfl) (by rfl) (fun K hK => ?_)
    go_simp
    refine hK _ _ ?_ ?_ <;> clear hK K
    · exact hS3
    clear hs0 hs1
    replace hS := hS3
    have d0 := (two_cells (two_set1 (two_set0 hblk f) g)).1
    try simp only [Act.put, List.setIfInBounds_toArray, List.set_cons_zero, List.set_cons_succ]
    (refine mv_val 8 (v := ?_) rfl (by kernel_rfl) (by kernel_rfl) (by kernel_rfl) (fun _ _ _ h => h) (by rfl) hS ?_ ?_; rotate_left; (focus (intro w hSw; (try dsimp only at hSw); (have f1 := F1 w hSw.1; have f2 := HL.out w _ hSw.2); go_simp; first | done | with_reducible rfl)); simp only [Act.put, List.setIfInBounds_toArray, List.set_cons_zero, List.set_cons_succ])
    refine wpAnyH_done (by kernel_rfl) ?_ _
    obtain ⟨wz, hwz⟩ : ∃ wz, wz = (w2.setCell ⟨w1.heap.size, 0, none⟩ f).setCell ⟨w1.heap.size, 1, none⟩ g := ⟨_, rfl⟩
    rw [← hwz] at hS d0 ⊢
    obtain ⟨p, hp⟩ : ∃ p, p = w1.heap.size := ⟨_, rfl⟩
    have hp1 : w1.heap.size ≤ p := by omega
    rw [← hp] at d0 ⊢
    have hbz := hS.1
    clear hwz hp hS hS3 hblk hz2
    have hzz := hbz.size
    have hb0 : Below w.heap.size w wz := hb1.trans (hbz.mono (by omega))
    have hqz0 := cell_be hq0 hbz (by show w.heap.size < _; omega)
    have hqz1 := cell_be hq1 hbz (by show w.heap.size + 1 < _; omega)
    have hrz := hr1.below (hbz.mono (by omega))
    have hpz := cell_lt d0
    clear hq0 hq1 hr1 F1 hbz hb1
    cases tb
    · have hE : cput t l = ([], 1) := by unfold cput colok; rw [← HTB.out]; rfl
      have HE := Lib.hid hE
      clear hE
      go_wp2_with fail
      go_ret2
      exact retBE_err HE.out hb0
    by_cases hlen : l.length ≤ 65536
    case neg =>
      have hlI : (65536 : Int) < (l.length : Int) := by omega
      have hE : cput t l = ([], 1) := by unfold cput colok; rw [decide_eq_false hlen]; simp
      have HE := Lib.hid hE
      clear hE hlen
      go_wp2_with fail
      go_ret2
      exact retBE_err HE.out hb0
    have hlI : ¬ ((65536 : Int) < (l.length : Int)) := by omega
    have C0 := contains1_any w.heap.size A c l 49 (.pointer (some ⟨w.heap.size, 0, none⟩)) (fun v => !rmay t v) wz hrz (by omega) hlen (fun _ _ => by kernel_rfl) (fun w' hb v hv => put1c_any w.heap.size t v (HXX.out v hv).1 (HXX.out v hv).2.1 (HXX.out v hv).2.2 w' (cell_be hqz0 hb (cell_lt hqz0)))
    obtain ⟨q, hq⟩ : ∃ q, q = l.any (fun v => !rmay t v) := ⟨_, rfl⟩
    rw [← hq] at C0
    have HC := Lib.hid C0
    have HQ := Lib.hid hq
    clear C0 hq
    go_wp2_with fail
    refine HC.out.mono ?_; rintro e w4 ⟨rfl, hb4⟩
    have hb04 : Below w.heap.size w w4 := hb0.trans (hb4.mono (by omega))
    have hall : l.all (rmay t) = !q := by rw [HQ.out, List.any_eq_not_all_not]; simp
    cases q
    case true =>
      have hE : cput t l = ([], 1) := by unfold cput colok; rw [hall]; simp
      have HE := Lib.hid hE
      clear hE hall
      go_wp2_with fail
      go_ret2
      exact retBE_err HE.out hb04
    have hE : cput t l = (bitsN l.length (nullAt l) ++ cbody t (marks l), 0) := by unfold cput colok; rw [hall, ← HTB.out, decide_eq_true hlen]; rfl
    have HE := Lib.hid hE
    have hqw0 := cell_be hqz1 hb4 (cell_lt hqz1)
    have dw0 := cell_be d0 hb4 (cell_lt d0)
    have hrw := hrz.below (hb4.mono (by omega))
    have hz4 := hb4.size
    have CL := clone_any w.heap.size A c l w4 hrw (by omega) hlen
    have HCL := Lib.hid CL
    have hml : (marks l).length ≤ 65536 := Nat.le_trans (marks_le l) hlen
    obtain ⟨fn, hfn, hent, hput⟩ := put_way HTB.out.symm (marks l) hml (fun v hv => by have := (HXX.out v (List.mem_filter.1 hv).1).2.2; omega) (HTT.out hlen)
    obtain rfl : f = .func (.func fn) #[] #[] := HF.out.trans hfn
    have HPUT := Lib.hid hput
    have hcb := HCC.out hlen
    have hbl := bits_le l.length (nullAt l)
    clear hE hall CL hput hqz0 hqz1 d0 hrz HC hfn
    go_wp2_with fail
    refine HCL.out.mono ?_; rintro e w5 ⟨A5, c5, rfl, hown5, hb5⟩
    have hz5 := hb5.size
    have DL := delete_any w4.heap.size A5 c5 l w5 hown5 hz5 hlen
    have HDL := Lib.hid DL
    clear DL
    go_wp2_with fail
    refine HDL.out.mono ?_; rintro e w6 ⟨A6, c6, rfl, hrd6, hb6⟩
    have hb46 : Below w4.heap.size w4 w6 := hb5.trans hb6
    have hqw := cell_be hqw0 hb46 (by show w.heap.size + 1 < _; omega)
    have dw := cell_be dw0 hb46 (by show p < _; omega)
    have hrw6 := hrw.below (hb46.mono (by omega))
    have hb06 : Below w.heap.size w w6 := hb04.trans (hb46.mono (by omega))
    have hz6 := hb46.size
    obtain ⟨bn, hbn⟩ : ∃ x, x = bitsN l.length (nullAt l) := ⟨_, rfl⟩
    obtain ⟨cb, hcb0⟩ : ∃ x, x = cbody t (marks l) := ⟨_, rfl⟩
    obtain ⟨mk, hmk⟩ : ∃ x, x = marks l := ⟨_, rfl⟩
    rw [← hmk] at hrd6 ⊢
    have HMK := Lib.hid hmk
    have HBN := Lib.hid hbn
    have HCB := Lib.hid hcb0
    rw [← hbn] at hbl
    rw [← hcb0] at hcb
    have F2 : ∀ w', Below w6.heap.size w6 w' → w'.cell? ⟨w.heap.size + 1, 0, none⟩ = some (.slice A l.length c) ∧ w'.cell? ⟨p, 0, none⟩ = some (.func (.func fn) #[] #[]) := fun w' h => ⟨cell_be hqw h (cell_lt hqw), cell_be dw h (cell_lt dw)⟩
    have F3 : ∀ w', Below w6.heap.size w6 w' → Calls Try.prog 54 #[.int .i64 (l.length : Int), .func (.func 55) #[] #[.pointer (some ⟨w.heap.size + 1, 0, none⟩)]] w' (RetB w' bn) := fun w' h => by
      rw [hbn]
      exact lay_any l.length hlen 55 (.pointer (some ⟨w.heap.size + 1, 0, none⟩)) (nullAt l) (fun _ _ => by kernel_rfl) w' (fun w'' h2 i hi => null1_any (w.heap.size + 1) A c i l w.heap.size w'' (cell_be (F2 w' h).1 h2 (cell_lt (F2 w' h).1)) (hrw6.below ((h.trans (h2.mono h.size)).mono (by omega))) hi)
    have F4 : ∀ w', Below w6.heap.size w6 w' → Calls Try.prog fn #[.slice A6 mk.length c6] w' (RetB w' cb) := fun w' h => by
      rw [hcb0, hmk]
      exact HPUT.out A6 c6 w' (by rw [← hmk]; exact (hrd6.below h).more h.size)
    have HF2 := Lib.hid F2
    have HF3 := Lib.hid F3
    have HF4 := Lib.hid F4
    clear F2 F3 F4 hqw dw hqw0 dw0 hrw hrw6 hbn hcb0 hmk hrd6 hown5
    go_wp2_with fail
    refine ah_start 11 (fun w' => Below w6.heap.size w6 w') rfl (by kernel_rfl) (Below.refl _ _).drew ?_ ; intro hS
    (refine mv_val 0 (v := ?_) rfl (by kernel_rfl) (by kernel_rfl) (by kernel_rfl) (fun _ _ _ h => h) (by rfl) hS ?_ ?_; rotate_left; (focus (intro w hSw; (try dsimp only at hSw); (have f1 := (HF2.out w hSw).1; have f2 := (HF2.out w hSw).2); go_simp; first | done | with_reducible rfl)); simp only [Act.put, List.setIfInBounds_toArray, List.set_cons_zero, List.set_cons_succ])
    (refine mv_val 1 (v := ?_) rfl (by kernel_rfl) (by kernel_rfl) (by kernel_rfl) (fun _ _ _ h => h) (by rfl) hS ?_ ?_; rotate_left; (focus (intro w hSw; (try dsimp only at hSw); (have f1 := (HF2.out w hSw).1; have f2 := (HF2.out w hSw).2); go_simp; first | done | with_reducible rfl)); simp only [Act.put, List.setIfInBounds_toArray, List.set_cons_zero, List.set_cons_succ])
    (refine mv_val 2 (v := ?_) rfl (by kernel_rfl) (by kernel_rfl) (by kernel_rfl) (fun _ _ _ h => h) (by rfl) hS ?_ ?_; rotate_left; (focus (intro w hSw; (try dsimp only at hSw); (have f1 := (HF2.out w hSw).1; have f2 := (HF2.out w hSw).2); go_simp; first | done | with_reducible rfl)); simp only [Act.put, List.setIfInBounds_toArray, List.set_cons_zero, List.set_cons_succ])
    (refine mv_val 4 (v := ?_) rfl (by kernel_rfl) (by kernel_rfl) (by kernel_rfl) (fun _ _ _ h => h) (by rfl) hS ?_ ?_; rotate_left; (focus (intro w hSw; (try dsimp only at hSw); (have f1 := (HF2.out w hSw).1; have f2 := (HF2.out w hSw).2); go_simp; first | done | with_reducible rfl)); simp only [Act.put, List.setIfInBounds_toArray, List.set_cons_zero, List.set_cons_succ])
    (refine mv_val 5 (v := ?_) rfl (by kernel_rfl) (by kernel_rfl) (by kernel_rfl) (fun _ _ _ h => h) (by rfl) hS ?_ ?_; rotate_left; (focus (intro w hSw; (try dsimp only at hSw); (have f1 := (HF2.out w hSw).1; have f2 := (HF2.out w hSw).2); go_simp; first | done | with_reducible rfl)); simp only [Act.put, List.setIfInBounds_toArray, List.set_cons_zero, List.set_cons_succ])
    (refine mv_val 6 (v := ?_) rfl (by kernel_rfl) (by kernel_rfl) (by kernel_rfl) (fun _ _ _ h => h) (by rfl) hS ?_ ?_; rotate_left; (focus (intro w hSw; (try dsimp only at hSw); (have f1 := (HF2.out w hSw).1; have f2 := (HF2.out w hSw).2); go_simp; first | done | with_reducible rfl)); simp only [Act.put, List.setIfInBounds_toArray, List.set_cons_zero, List.set_cons_succ])
    (refine mv_call 3 (f := ?_) (args := ?_) rfl (by kernel_rfl) (by rfl) ?_ ?_; rotate_left 2; (focus (go_simp; first | done | with_reducible rfl | (refine ⟨?_, ?_⟩ <;> with_reducible rfl))))
    refine (HF3.out _ hS).mono ?_; rintro e w7 ⟨A7, c7, rfl, hown7, hb7⟩
    have hS7 : Below w6.heap.size w6 w7 := hS.trans (hb7.mono hS.size)
    refine ⟨_, rfl, hS7, ?_⟩
    have hs6 := hS.size
    replace hS := hS7
    clear hS7
    have hs7 := hS.size
    simp only [Act.put, List.setIfInBounds_toArray, List.set_cons_zero, List.set_cons_succ]
    (refine mv_call 7 (f := ?_) (args := ?_) rfl (by kernel_rfl) (by rfl) ?_ ?_; rotate_left 2; (focus (go_simp; first | done | with_reducible rfl | (refine ⟨?_, ?_⟩ <;> with_reducible rfl))))
    refine (HF4.out _ hS).mono ?_; rintro e w8 ⟨A8, c8, rfl, hown8, hb8⟩
    have hS8 : Below w6.heap.size w6 w8 := hS.trans (hb8.mono hS.size)
    refine ⟨_, rfl, hS8, ?_⟩
    replace hS := hS8
    clear hS8
    have hs8 := hS.size
    have hown9 := own_lower (own_bel hown7 hb8) hs6
    simp only [Act.put, List.setIfInBounds_toArray, List.set_cons_zero, List.set_cons_succ]
    refine mv_step 8 rfl (by kernel_rfl) (by rfl) (fun K hK => ?_)
    refine wp_app El_u8 _ _ rfl hown9 rfl rfl (rd_own hown8) (by simp) (cells_one _) (by unfold maxLen; omega) (by omega) hs8 ?_; intro v9 w9 hown10 hg9 _; refine hK _ _ ?_ ?_ <;> clear hK K
    · exact hS.trans (own_below hown9 hg9 hs8)
    have hb9 : Below w6.heap.size w6 w9 := hS.trans (own_below hown9 hg9 hs8)
    replace hS := hb9
    try simp only [Act.put, List.setIfInBounds_toArray, List.set_cons_zero, List.set_cons_succ]
    (refine mv_val 9 (v := ?_) rfl (by kernel_rfl) (by kernel_rfl) (by kernel_rfl) (fun _ _ _ h => h) (by rfl) hS ?_ ?_; rotate_left; (focus (intro w hSw; (try dsimp only at hSw); (have f1 := (HF2.out w hSw).1; have f2 := (HF2.out w hSw).2); go_simp; first | done | with_reducible rfl)); simp only [Act.put, List.setIfInBounds_toArray, List.set_cons_zero, List.set_cons_succ])
    (refine mv_val 10 (v := ?_) rfl (by kernel_rfl) (by kernel_rfl) (by kernel_rfl) (fun _ _ _ h => h) (by rfl) hS ?_ ?_; rotate_left; (focus (intro w hSw; (try dsimp only at hSw); (have f1 := (HF2.out w hSw).1; have f2 := (HF2.out w hSw).2); go_simp; first | done | with_reducible rfl)); simp only [Act.put, List.setIfInBounds_toArray, List.set_cons_zero, List.set_cons_succ])
    refine wpAnyH_done (by kernel_rfl) ?_ _
    go_wp2_with fail
    go_ret2
    refine retBE_ok HE.out ?_ (hb06.trans (hb9.mono (by omega)))
    rw [← HBN.out, ← HCB.out, List.length_append, cells_append]
    exact own_lower hown10 (by omega)
end Go.Proofs.Ythkpgjcnnfdibaa

/-! Plain: how many marks a column's bytes hold, and where they go (layer 6). No program in sight. -/
namespace Go.Proofs.Ythkpgjcnnfdibaa
open Go.RowKit
set_option linter.unusedVariables false

theorem zeros_snoc (b : List UInt8) (k : Nat) : zeros b (k + 1) = zeros b k + (if bitAt b k then 0 else 1) := by
  unfold zeros
  rw [List.range_succ, List.filter_append, List.length_append]
  cases h : bitAt b k <;> simp [h]
theorem zeros_mono (b : List UInt8) {k n : Nat} (h : k ≤ n) : zeros b k ≤ zeros b n := by
  induction n with
  | zero => simp at h; subst h; exact Nat.le_refl _
  | succ n ih =>
    by_cases hk : k = n + 1
    · rw [hk]; exact Nat.le_refl _
    · have := ih (by omega)
      rw [zeros_snoc]; omega
theorem zeros_le (b : List UInt8) (n : Nat) : zeros b n ≤ n := by
  unfold zeros
  exact Nat.le_trans (List.length_filter_le _ _) (by simp)
theorem rmarks_len {ws : List (List UInt8)} : ∀ (k : Nat) (out : List V) (r : List UInt8), (rmarks ws k out r).2.2 = 0 → (rmarks ws k out r).1.length = out.length + k
  | 0, out, r, _ => rfl
  | k + 1, out, r, h => by
    unfold rmarks at h ⊢
    by_cases h1 : (vget r).2.2 ≠ 0
    · rw [if_pos h1] at h; exact absurd h h1
    rw [if_neg h1] at h ⊢
    by_cases h2 : ws.length ≤ (vget r).1
    · rw [if_pos h2] at h; simp at h
    rw [if_neg h2] at h ⊢
    have := rmarks_len k _ _ h
    rw [this]; simp; omega
theorem tget_len {b : List UInt8} {n : Nat} (h : (tget b n).2 = 0) : (tget b n).1.length = n := by
  unfold tget at h ⊢
  by_cases h1 : (vget b).2.2 ≠ 0
  · rw [if_pos h1] at h; exact absurd h h1
  rw [if_neg h1] at h ⊢
  by_cases h2 : n < (vget b).1
  · rw [if_pos h2] at h; simp at h
  rw [if_neg h2] at h ⊢
  by_cases h3 : (rwords (vget b).1 [] (b.drop (vget b).2.1)).2.2 ≠ 0
  · rw [if_pos h3] at h; exact absurd h h3
  rw [if_neg h3] at h ⊢
  by_cases h4 : (rmarks (rwords (vget b).1 [] (b.drop (vget b).2.1)).1 n [] (rwords (vget b).1 [] (b.drop (vget b).2.1)).2.1).2.2 ≠ 0
  · rw [if_pos h4] at h; exact absurd h h4
  rw [if_neg h4] at h ⊢
  split at h
  · rename_i h5
    rw [if_pos h5]
    have := rmarks_len n [] _ (Decidable.not_not.1 h4)
    simpa using this
  · simp at h
theorem cread_len {t : UInt8} {b : List UInt8} {n : Nat} (h : (cread t b n).2 = 0) : (cread t b n).1.length = n := by
  unfold cread at h ⊢
  by_cases h1 : t.toNat = 1
  · rw [if_pos h1] at h ⊢
    by_cases h2 : tkE b n ≠ 0
    · rw [if_pos h2] at h; exact absurd h h2
    rw [if_neg h2] at h ⊢
    by_cases h3 : size8 n < b.length
    · rw [if_pos h3] at h; simp at h
    rw [if_neg h3]
    simp [truthsOf]
  rw [if_neg h1] at h ⊢
  by_cases h2 : t.toNat = 2
  · rw [if_pos h2] at h ⊢
    by_cases h3 : (In.iget b n).2 ≠ 0
    · rw [if_pos h3] at h; exact absurd h h3
    rw [if_neg h3]
    have := (In.iput_iget b n (Decidable.not_not.1 h3)).2.2.1
    simp only [List.length_map]
    omega
  rw [if_neg h2] at h ⊢
  exact tget_len h
/-- a column's values, one more -/
theorem merge_null {b : List UInt8} {i k : Nat} {l : List V} (h : bitAt b i = true) : merge b i (k + 1) l = null :: merge b (i + 1) k l := by
  conv => lhs; unfold merge
  rw [if_pos h]
theorem merge_mark {b : List UInt8} {i k : Nat} {v : V} {l : List V} (h : bitAt b i = false) : merge b i (k + 1) (v :: l) = v :: merge b (i + 1) k l := by
  conv => lhs; unfold merge
  rw [if_neg (by simp [h])]; rfl
theorem merge_len (b : List UInt8) : ∀ (k i : Nat) (l : List V), (merge b i k l).length = k
  | 0, i, l => rfl
  | k + 1, i, l => by
    unfold merge
    split <;> simp [merge_len b k]
end Go.Proofs.Ythkpgjcnnfdibaa

/-! The walk of column.Get (layer 6). It answers cget, in new memory. -/
namespace Go.Proofs.Ythkpgjcnnfdibaa
open Go.RowKit Go.Maps
set_option linter.unusedVariables false
set_option linter.unusedSimpArgs false

set_option maxHeartbeats 8000000 in
set_option maxRecDepth 100000 in
theorem cget_any (B : Nat) (A : Option Addr) (c : Nat) (t : UInt8) (b : List UInt8) (n : Int) (w : World) (hr : Rd w B A (cells b)) (hc : b.length ≤ c) (hB : B ≤ w.heap.size) (hn63 : i64r n) (hb : b.length ≤ 4294967296)
    (hbn : 0 ≤ n → n ≤ 65536 → (n.toNat + 1) * (b.length + 10) ≤ 4000000000) :
    Calls Try.prog 67 #[b8 t, .slice A b.length c, .int .i64 n] w (RetVE w (cget t b n)) := by
  have HBN := Lib.hid hbn
  obtain ⟨tb, htb⟩ : ∃ tb, tb = tyok t := ⟨_, rfl⟩
  have HTB := Lib.hid htb
  obtain ⟨f, hf⟩ : ∃ f, f = cputF t.toNat := ⟨_, rfl⟩
  obtain ⟨g, hg⟩ : ∃ g, g = cgetF t.toNat := ⟨_, rfl⟩
  have HG := Lib.hid hg
  have hf1 : f.oneCell' = true := by rw [hf]; exact cputF_one _
  have hg1 : g.oneCell' = true := by rw [hg]; exact cgetF_one _
  have hlook : ∀ (W : World) (b : Nat), W.ownsMap Try.prog 5 wayE b 3 ctab → (Instr.lookup 86 (.map (some b)) (b8 t) true).run Try.prog W = .ok (.tuple #[.agg #[f, g], .bool tb]) W := fun W b h => by rw [hf, hg, htb]; exact clook h t
  have HL := Lib.hid hlook
  have HF1 := Lib.hid hf1
  have HG1 := Lib.hid hg1
  clear hbn htb hf hg hf1 hg1 hlook
  go_enter Try.func67, Try.ntmps67
  go_wp2_with fail
  refine (cways_any _).mono ?_; rintro e w2 ⟨rfl, hm2, hb2⟩
  have hlk := HL.out w2 _ hm2
  have hs0 : (store ⟨w2.heap.size, 0, none⟩ f).run Try.prog (w2.alloc (.cells #[.nilFunc, .nilFunc] 84)) = .ok () (w2.alloc (.cells #[f, .nilFunc] 84)) := by
    rw [store_fn HF1.out (u := .nilFunc) (by simp [go_sem]) (by simp [go_sem])]; simp [go_sem]
  have hs1 : (store ⟨w2.heap.size, 1, none⟩ g).run Try.prog (w2.alloc (.cells #[f, .nilFunc] 84)) = .ok () (w2.alloc (.cells #[f, g] 84)) := by
    rw [store_fn HG1.out (u := .nilFunc) (by simp [go_sem]) (by simp [go_sem])]; simp [go_sem]
  cases tb
  · have hE : cget t b n = ([], 1) := by unfold cget; rw [if_pos (.inl HTB.out.symm)]
    have HE := Lib.hid hE
    clear hE
    go_wp2_with fail
    go_ret2
    exact retVE_err HE.out (hb2.alloc hb2.size _)
  by_cases hneg : n < 0
  · have hE : cget t b n = ([], 1) := by unfold cget; rw [if_pos (.inr (.inl hneg))]
    have HE := Lib.hid hE
    clear hE
    go_wp2_with fail
    go_ret2
    exact retVE_err HE.out (hb2.alloc hb2.size _)
  by_cases hbig : 65536 < n
  · have hE : cget t b n = ([], 1) := by unfold cget; rw [if_pos (.inr (.inr hbig))]
    have HE := Lib.hid hE
    clear hE
    go_wp2_with fail
    go_ret2
    exact retVE_err HE.out (hb2.alloc hb2.size _)
  obtain ⟨k, rfl⟩ : ∃ k : Nat, n = k := ⟨n.toNat, by omega⟩
  have hk : k ≤ 65536 := by omega
  have hcg : cget t b k = if tkE b k ≠ 0 then ([], tkE b k) else if (cread t (b.drop (size8 k)) (zeros b k)).2 ≠ 0 then ([], (cread t (b.drop (size8 k)) (zeros b k)).2) else (merge b 0 k (cread t (b.drop (size8 k)) (zeros b k)).1, 0) := by
    unfold cget
    rw [if_neg (by rw [← HTB.out]; simp; omega)]
    simp only [Int.toNat_natCast]
  have HCG := Lib.hid hcg
  obtain ⟨p, hp⟩ : ∃ p, p = w2.heap.size := ⟨_, rfl⟩
  obtain ⟨w3, hw3⟩ : ∃ w3, w3 = w2.alloc (.cells #[f, g] 84) := ⟨_, rfl⟩
  have hb3 : Below w.heap.size w w3 := by rw [hw3]; exact hb2.alloc hb2.size _
  have d1 : w3.cell? ⟨p, 1, none⟩ = some g := by rw [hw3, hp]; simp [go_sem]
  have T0 := take_any B A c b k w3 (hr.below (hb3.mono hB)) hc (by have := hb3.size; omega) hk hb
  rw [hw3] at T0
  have HT := Lib.hid T0
  clear T0 hcg
  go_wp2_with fail
  refine HT.out.mono ?_; intro e w4 hret
  rw [← hw3] at hret
  have hz3 := hb3.size
  rcases hret with ⟨hne, rfl, hb4⟩ | ⟨heq, A4, c4, A5, c5, rfl, hown4, hrd4, hc5, hb4⟩
  · have hE : cget t b k = ([], tkE b k) := by rw [HCG.out, if_pos hne]
    have HE := Lib.hid hE
    have hneI : ((tkE b k : Int) != 0) = true := by simp; omega
    clear hE hne
    go_wp2_with fail
    go_ret2
    exact retVE_err HE.out (hb3.trans (hb4.mono hz3))
  have hcg2 : cget t b k = if (cread t (b.drop (size8 k)) (zeros b k)).2 ≠ 0 then ([], (cread t (b.drop (size8 k)) (zeros b k)).2) else (merge b 0 k (cread t (b.drop (size8 k)) (zeros b k)).1, 0) := by rw [HCG.out, if_neg (by simpa using heq)]
  have HCG2 := Lib.hid hcg2
  rw [hp] at d1
  have d4 := cell_be d1 hb4 (cell_lt d1)
  have hb04 : Below w.heap.size w w4 := hb3.trans (hb4.mono hz3)
  have hz04 := hb04.size
  have hrl4 := rd_own hown4
  clear hcg2 heq hw3 hp hm2 hs0 hs1 hlk d1 HT HCG
  go_wp2_with fail
  go_loopw [13, 48] (fun v13 v48 wr => ∃ j : Nat, j ≤ k ∧ v48 = .int .i64 j ∧ v13 = .int .i64 (zeros b j : Nat) ∧ w4 = wr) (fun _ v48 _ => k - (intOf v48).toNat)
  case atStart => exact ⟨0, by omega, rfl, rfl, rfl⟩
  case round =>
    obtain ⟨j, hj, rfl, rfl, rfl⟩ := hrel
    by_cases hlt : j < k
    case pos =>
      have hltI : (j : Int) < (k : Int) := by omega
      obtain ⟨bb, oo, rfl, hbb, hcell⟩ := hrl4.at (k := j) (by simp [bools, blN_len]; omega)
      obtain ⟨bi, hbi⟩ : ∃ x, x = bitAt b j := ⟨_, rfl⟩
      have hck := hcell j (.bool bi) (by rw [hbi]; simp [bools, blN, hlt])
      have hzs := zeros_snoc b j
      have hzl := zeros_le b j
      rw [← hbi] at hzs
      have HZ := Lib.hid hzs
      clear hcell hbi hzs
      cases bi
      · go_wp2_with fail
        go_roundw
        case rel => exact ⟨j + 1, by omega, by go_num, by rw [HZ.out]; go_num, by trivial⟩
        case measure => simp [intOf]; omega
      · go_wp2_with fail
        go_roundw
        case rel => exact ⟨j + 1, by omega, by go_num, by rw [HZ.out]; rfl, by trivial⟩
        case measure => simp [intOf]; omega
    have hjk : j = k := by omega
    subst hjk
    have hgeI : ¬ ((j : Int) < (j : Int)) := by omega
    obtain ⟨fn, hfn, hent, hget⟩ := get_way HTB.out.symm
    obtain rfl : g = .func (.func fn) #[] #[] := HG.out.trans hfn
    have hzl := zeros_le b j
    have hbn2 := HBN.out (by omega) (by omega)
    rw [Int.toNat_natCast] at hbn2
    have hdl : (b.drop (size8 j)).length ≤ b.length := by rw [List.length_drop]; omega
    have G0 := hget B A5 c5 (b.drop (size8 j)) (zeros b j) w4 hrd4 hc5 (by omega) (by omega) (Nat.le_trans (Nat.mul_le_mul (by omega) (by omega)) hbn2)
    have hrl := @cread_len t (b.drop (size8 j)) (zeros b j)
    obtain ⟨z, hz⟩ : ∃ z, z = zeros b j := ⟨_, rfl⟩
    rw [← hz] at G0 hzl hrl HCG2 ⊢
    have HZ := Lib.hid hz
    generalize cread t (b.drop (size8 j)) z = x at *
    obtain ⟨lm, er⟩ := x
    dsimp only at G0 hrl HCG2
    have HRL := Lib.hid hrl
    rw [List.length_drop] at G0
    have HG5 := Lib.hid G0
    have HHL := Lib.hid hrl4
    have hd4 := d4
    clear hz hrl G0 hrl4 hget hfn hlt hown4 hrd4
    go_wp2_with fail
    refine HG5.out.mono ?_; rintro e w5 ⟨A6, c6, rfl, hown5, hb5⟩
    dsimp only at hown5
    dsimp only
    have hb05 : Below w.heap.size w w5 := hb04.trans (hb5.mono hz04)
    have hz05 := hb05.size
    by_cases her : er = 0
    case neg =>
      have hE : cget t b j = ([], er) := by rw [HCG2.out, if_pos her]
      have HE := Lib.hid hE
      have herI : ((er : Int) != 0) = true := by simp; omega
      clear hE her
      go_wp2_with fail
      go_ret2
      exact retVE_err HE.out hb05
    have hE : cget t b j = (merge b 0 j lm, 0) := by rw [HCG2.out, if_neg (by simpa using her)]
    have hll := HRL.out her
    have HE := Lib.hid hE
    have HLL := Lib.hid hll
    have herI : ((er : Int) != 0) = false := by simp; omega
    have hrd5 := rd_own hown5
    have hrb5 := (HHL.out.below hb5).more hb5.size
    have hc6 : lm.length ≤ c6 := own_le hown5
    obtain ⟨by_, hinfo, hby⟩ := Try.infoVal
    obtain ⟨i0, hi, hz0, hz1, hz2⟩ := info_parts hinfo
    obtain ⟨w6, hmk, hown, hg⟩ := run_make_full (P := Try.prog) w5 w5.heap.size 37 46 i0 (.agg #[.int .u8 0, .int .i64 0, .string ByteArray.empty]) 3 Try.underlying37 hi hz0 hz1 .i64 .i64 j (by rw [hz2]; exact Nat.le_trans (Nat.mul_le_mul hby hk) (by decide)) (by unfold maxLen; omega) (Nat.le_refl _)
    have hmk2 : (Instr.makeSlice 37 (.int .i64 (j : Int)) (.int .i64 (j : Int))).run Try.prog w5 = .ok (.slice (some ⟨w5.heap.size, 0, none⟩) j j) w6 := hmk
    have hown6 : w6.ownsRow w5.heap.size 46 3 (.slice (some ⟨w5.heap.size, 0, none⟩) j j) j (vcells (List.replicate j null)) := by
      have h := hown
      rwa [vcells_rep null j (Value.agg #[.int .u8 0, .int .i64 0, .string ByteArray.empty]).cells rfl] at h
    have hb6 : Below w5.heap.size w5 w6 := (Below.refl _ w5).grown hg (Nat.le_refl _) (by simp)
    have hrd6 := hrd5.below hb6
    clear hmk hown hi hz0 hz1 hz2 hg hinfo hE her hll hown5 hrd5 hent hd4 d4
    go_wp2_with fail
    obtain ⟨g, hgg⟩ : ∃ g, g = w5.heap.size := ⟨_, rfl⟩
    rw [← hgg] at hown6 hb6 hrd6 hrb5 hmk2 hz05 ⊢
    clear hgg hmk2
    obtain ⟨wo, hwo⟩ : ∃ wo, wo = w4 := ⟨_, rfl⟩
    go_loopw [16, 72] (fun v16 v72 wr => ∃ (i m : Nat) (acc lr : List V) (A7 : Option Addr) (c7 : Nat), i ≤ j ∧ v72 = .int .i64 i ∧ acc.length = i ∧ v16 = .slice A7 m c7 ∧ m = lr.length ∧ m ≤ c7 ∧ Rd wr g A7 (vcells lr) ∧ m + zeros b i = z ∧ acc ++ merge b i (j - i) lr = merge b 0 j lm ∧
        wr.ownsRow g 46 3 (.slice (some ⟨g, 0, none⟩) j j) j (vcells (acc ++ List.replicate (j - i) null)) ∧ Below g w5 wr) (fun _ v72 _ => j - (intOf v72).toNat)
    case atStart =>
      exact ⟨0, lm.length, [], lm, A6, c6, by omega, rfl, rfl, rfl, rfl, hc6, hrd6, by rw [HLL.out]; rfl, rfl, hown6, hb6⟩
    case round =>
      clear hown6 hb6 hrd6 hc6
      obtain ⟨i, m, acc, lr, A7, c7, hi, rfl, hacc, rfl, hm, hmc, hrd, hmz, hmer, hown, hbel⟩ := hrel
      have HM := Lib.hid hm
      have HACC := Lib.hid hacc
      have HMZ := Lib.hid hmz
      have HMER := Lib.hid hmer
      have hb0r : Below w.heap.size w wr := hb05.trans (hbel.mono hz05)
      clear hm hacc hmz hmer
      by_cases hlt : i < j
      case neg =>
        have hij : i = j := by omega
        have hgeI : ¬ ((i : Int) < (j : Int)) := by omega
        have hfin : acc = merge b 0 j lm := by
          have h := HMER.out
          rw [hij, Nat.sub_self] at h
          rw [← h]; simp [merge]
        have hown2 : wr.ownsRow w.heap.size 46 3 (.slice (some ⟨g, 0, none⟩) j j) (merge b 0 j lm).length (vcells (merge b 0 j lm)) := by
          have h := hown
          rw [hij, Nat.sub_self, List.replicate_zero, List.append_nil, hfin] at h
          rw [merge_len]; exact own_lower h hz05
        have HO := Lib.hid hown2
        clear hij hfin hown2
        go_wp2_with fail
        go_ret2
        exact retVE_ok HE.out HO.out hb0r
      have hltI : (i : Int) < (j : Int) := by omega
      obtain ⟨bb, oo, rfl, hbb, hcell⟩ := hrb5.at (k := i) (by simp [bools, blN_len]; omega)
      have hck0 := hcell i (.bool (bitAt b i)) (by rw [List.getElem?_map, blN_get hlt]; rfl)
      have hck := (hbel.cell (p := ⟨bb, oo + i, none⟩) hbb).trans hck0
      obtain ⟨bi, hbi⟩ : ∃ x, x = bitAt b i := ⟨_, rfl⟩
      rw [← hbi] at hck
      have HBI := Lib.hid hbi
      have hji : j - i = (j - (i + 1)) + 1 := by omega
      have HJI := Lib.hid hji
      have hzs := zeros_snoc b i
      rw [← hbi] at hzs
      have hzm := zeros_mono b (show i + 1 ≤ j by omega)
      have HZS := Lib.hid hzs
      have HZM := Lib.hid hzm
      clear hcell hck0 hbi hji hzs hzm
      cases bi
      case true =>
        go_wp2_with fail
        go_roundw
        case rel =>
          refine ⟨i + 1, m, acc ++ [null], lr, A7, c7, by omega, by go_num, by simp [HACC.out], rfl, HM.out, hmc, hrd, ?_, ?_, ?_, hbel⟩
          · rw [HZS.out]; exact HMZ.out
          · rw [← HMER.out, HJI.out, merge_null HBI.out.symm, List.append_assoc]; rfl
          · have e : acc ++ [null] ++ List.replicate (j - (i + 1)) null = acc ++ List.replicate (j - i) null := by
              rw [HJI.out, List.replicate_succ, List.append_assoc]; rfl
            rw [e]; exact hown
        case measure => simp [intOf]; omega
      have hm1 : 1 ≤ m := by
        have h1 := HZS.out
        have h2 := HZM.out
        have h3 := HMZ.out
        rw [← HZ.out] at h2
        simp at h1
        omega
      obtain ⟨v, lr', hlr⟩ : ∃ v lr', lr = v :: lr' := by
        rcases lr with _ | ⟨v, lr'⟩
        · have := HM.out; simp at this; omega
        · exact ⟨v, lr', rfl⟩
      subst hlr
      obtain ⟨bv, ov, rfl, hbv, e0, e1, e2⟩ := rd_val hrd (i := 0) (v := v) rfl
      rw [Nat.zero_mul, Nat.add_zero] at e0 e1 e2
      have hsl := fun w' => from_vals (some ⟨bv, ov, none⟩) m c7 1 hm1 w' (1 : Int) rfl
      have hrd8 := hrd.cut 3 (c7 = 1) (fun e => by have := HM.out; rw [vcells_length]; omega)
      rw [show (vcells (v :: lr')).drop 3 = vcells lr' from rfl] at hrd8
      obtain ⟨A8, hA8⟩ : ∃ A8, A8 = (if c7 = 1 then some (⟨bv, ov, none⟩ : Addr) else (some (⟨bv, ov, none⟩ : Addr)).map (·.add (1 * 3))) := ⟨_, rfl⟩
      have hrd9 : Rd wr g A8 (vcells lr') := by rw [hA8]; exact hrd8
      rw [← hA8] at hsl
      have hm1I : (0 : Int) < (m : Int) := by omega
      have hlm : m - 1 = lr'.length := by have := HM.out; simp at this; omega
      have HLM := Lib.hid hlm
      have hbvg : bv ≠ g := by omega
      have ca := hown.cellAt (i * 3) (by omega)
      have cb := hown.cellAt (i * 3 + 1) (by omega)
      have cc := hown.cellAt (i * 3 + 2) (by omega)
      have hgl : (acc ++ List.replicate (j - i) null)[i]? = some null := by
        rw [List.getElem?_append_right (by rw [HACC.out]; omega), HACC.out, Nat.sub_self, List.getElem?_replicate, if_pos (by omega)]
      obtain ⟨q1, q2, q3⟩ := vcells_at _ _ _ hgl
      rw [q1] at ca; rw [q2] at cb; rw [q3] at cc
      have fa := hown.frozenAt (i * 3)
      have fb := hown.frozenAt (i * 3 + 1)
      have fc := hown.frozenAt (i * 3 + 2)
      clear hrd8 hA8 hlm q1 q2 q3 hgl
      go_wp2_with fail
      refine ah_start 10 (fun w' => Keep g wr w') rfl (by kernel_rfl) (Keep.refl _ _) ?_ ; intro hS
      (refine mv_val 0 (v := ?_) rfl (by kernel_rfl) (by kernel_rfl) (by kernel_rfl) (fun _ _ _ h => h) (by rfl) hS ?_ ?_; rotate_left; (focus (intro w hSw; (try dsimp only at hSw); (have f1 := hSw.cell (p := ⟨bv, ov, none⟩) hbvg e0; have f2 := hSw.cell (p := ⟨bv, ov + 1, none⟩) hbvg e1; have f3 := hSw.cell (p := ⟨bv, ov + 2, none⟩) hbvg e2; have f4 := hsl w; have f5 := hm1I; have f6 := hltI; have f7 := hlt; have f8 : 0 < m := hm1); go_simp; first | done | with_reducible rfl)); simp only [Act.put, List.setIfInBounds_toArray, List.set_cons_zero, List.set_cons_succ])
      (refine mv_val 1 (v := ?_) rfl (by kernel_rfl) (by kernel_rfl) (by kernel_rfl) (fun _ _ _ h => h) (by rfl) hS ?_ ?_; rotate_left; (focus (intro w hSw; (try dsimp only at hSw); (have f1 := hSw.cell (p := ⟨bv, ov, none⟩) hbvg e0; have f2 := hSw.cell (p := ⟨bv, ov + 1, none⟩) hbvg e1; have f3 := hSw.cell (p := ⟨bv, ov + 2, none⟩) hbvg e2; have f4 := hsl w; have f5 := hm1I; have f6 := hltI; have f7 := hlt; have f8 : 0 < m := hm1); go_simp; first | done | with_reducible rfl)); simp only [Act.put, List.setIfInBounds_toArray, List.set_cons_zero, List.set_cons_succ])
      (refine mv_val 2 (v := ?_) rfl (by kernel_rfl) (by kernel_rfl) (by kernel_rfl) (fun _ _ _ h => h) (by rfl) hS ?_ ?_; rotate_left; (focus (intro w hSw; (try dsimp only at hSw); (have f1 := hSw.cell (p := ⟨bv, ov, none⟩) hbvg e0; have f2 := hSw.cell (p := ⟨bv, ov + 1, none⟩) hbvg e1; have f3 := hSw.cell (p := ⟨bv, ov + 2, none⟩) hbvg e2; have f4 := hsl w; have f5 := hm1I; have f6 := hltI; have f7 := hlt; have f8 : 0 < m := hm1); go_simp; first | done | with_reducible rfl)); simp only [Act.put, List.setIfInBounds_toArray, List.set_cons_zero, List.set_cons_succ])
      (refine mv_val 3 (v := ?_) rfl (by kernel_rfl) (by kernel_rfl) (by kernel_rfl) (fun _ _ _ h => h) (by rfl) hS ?_ ?_; rotate_left; (focus (intro w hSw; (try dsimp only at hSw); (have f1 := hSw.cell (p := ⟨bv, ov, none⟩) hbvg e0; have f2 := hSw.cell (p := ⟨bv, ov + 1, none⟩) hbvg e1; have f3 := hSw.cell (p := ⟨bv, ov + 2, none⟩) hbvg e2; have f4 := hsl w; have f5 := hm1I; have f6 := hltI; have f7 := hlt; have f8 : 0 < m := hm1); go_simp; first | done | with_reducible rfl)); simp only [Act.put, List.setIfInBounds_toArray, List.set_cons_zero, List.set_cons_succ])
      (refine mv_val 4 (v := ?_) rfl (by kernel_rfl) (by kernel_rfl) (by kernel_rfl) (fun _ _ _ h => h) (by rfl) hS ?_ ?_; rotate_left; (focus (intro w hSw; (try dsimp only at hSw); (have f1 := hSw.cell (p := ⟨bv, ov, none⟩) hbvg e0; have f2 := hSw.cell (p := ⟨bv, ov + 1, none⟩) hbvg e1; have f3 := hSw.cell (p := ⟨bv, ov + 2, none⟩) hbvg e2; have f4 := hsl w; have f5 := hm1I; have f6 := hltI; have f7 := hlt; have f8 : 0 < m := hm1); go_simp; first | done | with_reducible rfl)); simp only [Act.put, List.setIfInBounds_toArray, List.set_cons_zero, List.set_cons_succ])
      (refine mv_val 5 (v := ?_) rfl (by kernel_rfl) (by kernel_rfl) (by kernel_rfl) (fun _ _ _ h => h) (by rfl) hS ?_ ?_; rotate_left; (focus (intro w hSw; (try dsimp only at hSw); (have f1 := hSw.cell (p := ⟨bv, ov, none⟩) hbvg e0; have f2 := hSw.cell (p := ⟨bv, ov + 1, none⟩) hbvg e1; have f3 := hSw.cell (p := ⟨bv, ov + 2, none⟩) hbvg e2; have f4 := hsl w; have f5 := hm1I; have f6 := hltI; have f7 := hlt; have f8 : 0 < m := hm1); go_simp; first | done | with_reducible rfl)); simp only [Act.put, List.setIfInBounds_toArray, List.set_cons_zero, List.set_cons_succ])
      (refine mv_val 6 (v := ?_) rfl (by kernel_rfl) (by kernel_rfl) (by kernel_rfl) (fun _ _ _ h => h) (by rfl) hS ?_ ?_; rotate_left; (focus (intro w hSw; (try dsimp only at hSw); (have f1 := hSw.cell (p := ⟨bv, ov, none⟩) hbvg e0; have f2 := hSw.cell (p := ⟨bv, ov + 1, none⟩) hbvg e1; have f3 := hSw.cell (p := ⟨bv, ov + 2, none⟩) hbvg e2; have f4 := hsl w; have f5 := hm1I; have f6 := hltI; have f7 := hlt; have f8 : 0 < m := hm1); go_simp; first | done | with_reducible rfl)); simp only [Act.put, List.setIfInBounds_toArray, List.set_cons_zero, List.set_cons_succ])
      (refine mv_val 7 (v := ?_) rfl (by kernel_rfl) (by kernel_rfl) (by kernel_rfl) (fun _ _ _ h => h) (by rfl) hS ?_ ?_; rotate_left; (focus (intro w hSw; (try dsimp only at hSw); (have f1 := hSw.cell (p := ⟨bv, ov, none⟩) hbvg e0; have f2 := hSw.cell (p := ⟨bv, ov + 1, none⟩) hbvg e1; have f3 := hSw.cell (p := ⟨bv, ov + 2, none⟩) hbvg e2; have f4 := hsl w; have f5 := hm1I; have f6 := hltI; have f7 := hlt; have f8 : 0 < m := hm1); go_simp; first | done | with_reducible rfl)); simp only [Act.put, List.setIfInBounds_toArray, List.set_cons_zero, List.set_cons_succ])
      refine mv_step 8 rfl (by kernel_rfl) (by rfl) (fun K hK => ?_)
      go_simp
      refine hK _ _ ?_ ?_ <;> clear hK K
      · exact (((Keep.refl _ _).set _ _).set _ _).set _ _
      replace hS := (((Keep.refl g wr).set (i * 3) (.int .u8 (v.k : Int))).set (i * 3 + 1) (.int .i64 v.n)).set (i * 3 + 2) (txt v.t)
      try simp only [Act.put, List.setIfInBounds_toArray, List.set_cons_zero, List.set_cons_succ]
      (refine mv_val 9 (v := ?_) rfl (by kernel_rfl) (by kernel_rfl) (by kernel_rfl) (fun _ _ _ h => h) (by rfl) hS ?_ ?_; rotate_left; (focus (intro w hSw; (try dsimp only at hSw); (have f1 := hSw.cell (p := ⟨bv, ov, none⟩) hbvg e0; have f2 := hSw.cell (p := ⟨bv, ov + 1, none⟩) hbvg e1; have f3 := hSw.cell (p := ⟨bv, ov + 2, none⟩) hbvg e2; have f4 := hsl w; have f5 := hm1I; have f6 := hltI; have f7 := hlt; have f8 : 0 < m := hm1); go_simp; first | done | with_reducible rfl)); simp only [Act.put, List.setIfInBounds_toArray, List.set_cons_zero, List.set_cons_succ])
      refine wpAnyH_done (by kernel_rfl) ?_ _
      go_wp2_with fail
      go_roundw
      case rel =>
        refine ⟨i + 1, m - 1, acc ++ [v], lr', A8, c7 - 1, by omega, by go_num, by simp [HACC.out], rfl, HLM.out, by omega, ?_, ?_, ?_, ?_, ?_⟩
        · exact hrd9.below ((((Below.refl g wr).setCell (p := ⟨g, i * 3, none⟩) (Nat.le_refl _) _).setCell (p := ⟨g, i * 3 + 1, none⟩) (Nat.le_refl _) _).setCell (p := ⟨g, i * 3 + 2, none⟩) (Nat.le_refl _) _).drew
        · rw [HZS.out]
          have := HMZ.out
          simp; omega
        · rw [← HMER.out, HJI.out, merge_mark HBI.out.symm, List.append_assoc]; rfl
        · have h := own_set3 (l := acc ++ List.replicate (j - i) null) (i := i) hown v (by rw [List.length_append, List.length_replicate, HACC.out]; omega)
          have e : (acc ++ List.replicate (j - i) null).set i v = acc ++ [v] ++ List.replicate (j - (i + 1)) null := by
            rw [List.set_append_right _ _ (by rw [HACC.out]; omega), HACC.out, Nat.sub_self, HJI.out, List.replicate_succ, List.append_assoc]; rfl
          rw [e] at h
          exact h
        · exact (((hbel.setCell (p := ⟨g, i * 3, none⟩) (Nat.le_refl _) _).setCell (p := ⟨g, i * 3 + 1, none⟩) (Nat.le_refl _) _).setCell (p := ⟨g, i * 3 + 2, none⟩) (Nat.le_refl _) _).drew
      case measure => simp [intOf]; omega
end Go.Proofs.Ythkpgjcnnfdibaa

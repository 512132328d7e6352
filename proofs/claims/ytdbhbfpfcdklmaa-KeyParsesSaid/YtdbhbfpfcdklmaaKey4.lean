/- The walk of key.readText (layer 3). For bytes of at most 2^32. -/
import Derived.Test.YtdbhbfpfcdklmaaKey3
import Derived.OneCell
import Derived.WalkMore
namespace Go.Proofs.Ytdbhbfpfcdklmaa
open Go.RowKit
set_option linter.unusedVariables false
set_option linter.unusedSimpArgs false

theorem rtext_nil (s : List UInt8) : rtext s [] = ([], [], 20) := rfl
theorem rtext_nz (s r : List UInt8) (c : UInt8) (h : c ≠ 0) : rtext s (c :: r) = rtext (s ++ [c]) r := by
  conv => lhs; unfold rtext
  rw [if_neg h]
theorem rtext_z (s : List UInt8) : rtext s [0] = ([], [], 20) := rfl
theorem rtext_zz (s r : List UInt8) (d : UInt8) : rtext s (0 :: d :: r) = if d = 1 then (s, r, 0) else if d = 255 then rtext (s ++ [0]) r else ([], [], 21) := by
  conv => lhs; unfold rtext
  rw [if_pos rfl]
/-- what a reader's first and next bytes are -/
theorem rd_head {w : World} {B : Nat} {A : Option Addr} {d : UInt8} {r : List UInt8} (h : Rd w B A (cells (d :: r))) : ∃ b o, A = some ⟨b, o, none⟩ ∧ b < B ∧ w.cell? ⟨b, o, none⟩ = some (b8 d) := by
  obtain ⟨b, o, hA, hb, hc⟩ := h.at (k := 0) (by simp)
  exact ⟨b, o, hA, hb, by have := hc 0 (b8 d) rfl; rwa [Nat.add_zero] at this⟩

/-- A block of three cells: what they hold, that they may be written, what the block is behind a store. -/
theorem three_cells {w : World} {k : Nat} {v0 v1 v2 : Value} {t : TypeId} (h : w.heap[k]? = some (.cells #[v0, v1, v2] t (0, 0))) : w.cell? ⟨k, 0, none⟩ = some v0 ∧ w.cell? ⟨k, 1, none⟩ = some v1 ∧ w.cell? ⟨k, 2, none⟩ = some v2 := by
  refine ⟨?_, ?_, ?_⟩ <;> simp [World.cell?, h]
theorem three_free {w : World} {k : Nat} {v0 v1 v2 : Value} {t : TypeId} (h : w.heap[k]? = some (.cells #[v0, v1, v2] t (0, 0))) : w.frozen? ⟨k, 0, none⟩ = false ∧ w.frozen? ⟨k, 1, none⟩ = false ∧ w.frozen? ⟨k, 2, none⟩ = false := by
  refine ⟨?_, ?_, ?_⟩ <;> simp [World.frozen?, h]
theorem three_set0 {w : World} {k : Nat} {v0 v1 v2 : Value} {t : TypeId} (h : w.heap[k]? = some (.cells #[v0, v1, v2] t (0, 0))) (x : Value) :
    (w.setCell ⟨k, 0, none⟩ x).heap[k]? = some (.cells #[x, v1, v2] t (0, 0)) := by
  have hlt := lt_of_block h
  have h' : w.heap[k] = .cells #[v0, v1, v2] t (0, 0) := by simpa [Array.getElem?_eq_getElem hlt] using h
  show (w.heap.modify k _)[k]? = _
  rw [Array.getElem?_eq_getElem (by simpa using hlt), Array.getElem_modify_self, h']
  rfl
theorem three_set1 {w : World} {k : Nat} {v0 v1 v2 : Value} {t : TypeId} (h : w.heap[k]? = some (.cells #[v0, v1, v2] t (0, 0))) (x : Value) :
    (w.setCell ⟨k, 1, none⟩ x).heap[k]? = some (.cells #[v0, x, v2] t (0, 0)) := by
  have hlt := lt_of_block h
  have h' : w.heap[k] = .cells #[v0, v1, v2] t (0, 0) := by simpa [Array.getElem?_eq_getElem hlt] using h
  show (w.heap.modify k _)[k]? = _
  rw [Array.getElem?_eq_getElem (by simpa using hlt), Array.getElem_modify_self, h']
  rfl
theorem three_set2 {w : World} {k : Nat} {v0 v1 v2 : Value} {t : TypeId} (h : w.heap[k]? = some (.cells #[v0, v1, v2] t (0, 0))) (x : Value) :
    (w.setCell ⟨k, 2, none⟩ x).heap[k]? = some (.cells #[v0, v1, x] t (0, 0)) := by
  have hlt := lt_of_block h
  have h' : w.heap[k] = .cells #[v0, v1, v2] t (0, 0) := by simpa [Array.getElem?_eq_getElem hlt] using h
  show (w.heap.modify k _)[k]? = _
  rw [Array.getElem?_eq_getElem (by simpa using hlt), Array.getElem_modify_self, h']
  rfl
theorem three_set {w : World} {k : Nat} {v0 v1 v2 : Value} {t : TypeId} (h : w.heap[k]? = some (.cells #[v0, v1, v2] t (0, 0))) (x0 x1 x2 : Value) :
    (((w.setCell ⟨k, 0, none⟩ x0).setCell ⟨k, 1, none⟩ x1).setCell ⟨k, 2, none⟩ x2).heap[k]? = some (.cells #[x0, x1, x2] t (0, 0)) :=
  three_set2 (three_set1 (three_set0 h x0) x1) x2
theorem grown_block {w w' : World} {r : Option Nat} {k : Nat} {o : Obj} (hg : w.grownBy w' r) (hk : w.heap[k]? = some o) (hr : r ≠ some k) : w'.heap[k]? = some o :=
  (hg.block k (Array.getElem?_eq_some_iff.1 hk).1 (fun e => hr e.symm)).trans hk
theorem three_below {w wr : World} {B k : Nat} (h : Below B w wr) (hk : B ≤ k) (x0 x1 x2 : Value) : Below B w (((wr.setCell ⟨k, 0, none⟩ x0).setCell ⟨k, 1, none⟩ x1).setCell ⟨k, 2, none⟩ x2) :=
  ((h.setCell (p := ⟨k, 0, none⟩) hk x0).setCell (p := ⟨k, 1, none⟩) hk x1).setCell (p := ⟨k, 2, none⟩) hk x2

theorem retV_ok2 {w w' : World} {B : Nat} {x : V × List UInt8 × Nat} {v : V} {r : List UInt8} {A : Option Addr} {c : Nat} {vv : Value} (hvv : vv = va v) (h : x = (v, r, 0)) (hr : Rd w' B A (cells r)) (hc : r.length ≤ c) (hb : Below w.heap.size w w') :
    RetV w B x (.returned (.tuple #[vv, .slice A r.length c, .int .i64 0])) w' := by
  subst h hvv
  exact ⟨A, c, rfl, hr, hc, hb⟩

set_option maxHeartbeats 2000000 in
set_option maxRecDepth 100000 in
theorem readText_any (B : Nat) (A : Option Addr) (c : Nat) (b : List UInt8) (w : World) (hr : Rd w B A (cells b)) (hc : b.length ≤ c) (hB : B ≤ w.heap.size) (hlen : b.length ≤ 4294967296) :
    Calls Try.prog 29 #[.slice A b.length c] w (RetV w B (rone 4 b)) := by
  have her : ∀ x, x ≠ 0 → rtext [] b = ([], [], x) → rone 4 b = (null, [], x) := fun x hx h => by unfold rone; simp [h, hx]
  have hok : ∀ s r, rtext [] b = (s, r, 0) → rone 4 b = (⟨3, 0, s⟩, r, 0) := fun s r h => by unfold rone; simp [h]
  have HER := Lib.hid her
  have HOK := Lib.hid hok
  clear her hok
  go_enter Try.func29, Try.ntmps29
  go_wp2
  go_step3
  go_wp2
  go_step3
  go_wp2
  go_loopw [0, 5] (fun v0 v5 wr => ∃ (s r : List UInt8) (A0 : Option Addr) (c0 : Nat), v0 = .slice A0 r.length c0 ∧ r.length ≤ c0 ∧ Rd wr B A0 (cells r) ∧ wr.ownsRow w.heap.size 5 1 v5 s.length (cells s) ∧ v5.ownBlock ≠ some w.heap.size ∧ s.length + r.length ≤ b.length ∧ rtext [] b = rtext s r ∧
      wr.heap[w.heap.size]? = some (.cells #[.int .u8 0, .int .i64 0, .string ⟨#[]⟩] 39 (0, 0)) ∧ Below w.heap.size w wr) (fun v0 _ _ => lenOf v0)
  case atStart => exact ⟨[], b, A, c, rfl, hc, hr.alloc hB _, World.ownsRow_nil _ _ _ _, by simp [Value.ownBlock], by simp, rfl, heap_alloc_new w _, (Below.refl _ _).alloc (Nat.le_refl _) _⟩
  case round =>
    obtain ⟨s, r, A0, c0, rfl, hc0, hrd, hown, hnb, hsl, hrt, hblk, hbel⟩ := hrel
    obtain ⟨A5, c5, rfl, hc5⟩ := own_form hown
    have HRT := Lib.hid hrt
    obtain ⟨q0, q1, q2⟩ := three_cells hblk
    obtain ⟨z0, z1, z2⟩ := three_free hblk
    have HBLK := Lib.hid hblk
    clear hrt hblk
    rcases r with _ | ⟨d, r⟩
    · have he := HER.out 20 (by omega) (HRT.out.trans (rtext_nil s))
      have HE := Lib.hid he
      clear he hrd
      go_wp2_with fail
      have hfin := three_set HBLK.out (.int .u8 0) (.int .i64 0) (.string ⟨#[]⟩)
      obtain ⟨y0, y1, y2⟩ := three_cells hfin
      try rw [Exit.noGoto_ret]
      refine bodyPost_ret (v := .tuple #[nullA, .slice none 0 0, .int .i64 20]) (by simp [results, Try.results29, go_sem, y0, y1, y2]) rfl (retV_err HE.out (three_below hbel (Nat.le_refl _) _ _ _))
    · obtain ⟨bb, oo, rfl, hbb, hcell⟩ := rd_head hrd
      have hrd' : Rd wr B (if c0 = 1 then some ⟨bb, oo, none⟩ else some ⟨bb, oo + 1, none⟩) (cells r) := by
        have h1 := hrd.cut 1 (c0 = 1) (fun e => by rw [List.length_map]; omega)
        simpa [Addr.add] using h1
      have hc' : r.length ≤ c0 - 1 := by simp at hc0; omega
      have hn : ((d :: r).length : Int) = (r.length : Int) + 1 := by simp
      have hll : s.length + r.length + 1 ≤ b.length := by simp at hsl; omega
      obtain ⟨n, hnn⟩ : ∃ n, n = (d :: r).length := ⟨_, rfl⟩
      have hnr : n = r.length + 1 := by rw [hnn]; simp
      rw [← hnn] at hn hc0 ⊢
      have hn1 : (0 : Int) < (n : Int) := by omega
      have hn2 : 0 < n := by omega
      have hd : d.toNat < 256 := d.toNat_lt
      have hsz := hbel.size
      have hnbB : ∀ b', b' < B → (Value.slice A5 s.length c5).ownBlock ≠ some b' := fun b' hb' e => by have := (hown.lt b' e).1; omega
      clear hsl hnn hn
      by_cases hd0 : d = 0
      case neg =>
        have hdI : ((d.toNat : Int) != 0) = true := by
          simp only [bne_iff_ne, ne_eq]
          intro e
          exact hd0 (UInt8.toNat_inj.1 (by show d.toNat = 0; omega))
        have HR2 := Lib.hid (HRT.out.trans (rtext_nz s r d hd0))
        clear hd0
        go_wp2_with (at_builtin; refine wpList_app El_u8 rfl _ _ rfl (hown.alloc _) rfl rfl (by exact rd_one _ _ _ _ _ rfl (Nat.lt_add_one _)) rfl one_int (by unfold maxLen; omega) (by omega) (by have := hbel.size; simp; omega) ?_; intro v2 w3 hown3 hg3 ho3)
        have hb3 : Below w.heap.size w w3 := (hbel.alloc hbel.size _).trans (own_below (hown.alloc _) hg3 (by have := hbel.size; simp; omega))
        have hyl := lt_of_block HBLK.out
        go_roundw
        case rel =>
          refine ⟨s ++ [d], r, _, _, rfl, hc', ?_, ?_, nb_app ho3 hnb (by simp; omega), by simp; omega, HR2.out, ?_, hb3⟩
          · exact ((hrd'.alloc (by omega) _).keep fun b' o' hb' => World.cell?_of_block (hg3.block b' (by simp; omega) (fun e => hnbB b' hb' e.symm)))
          · rw [cells_append, List.length_append, List.length_singleton]; exact hown3
          · exact grown_block hg3 ((Below.heap_alloc _ _ _ hyl).trans HBLK.out) hnb
        case measure => simp [lenOf]; omega
      subst hd0
      rw [show b8 0 = .int .u8 0 from rfl] at hcell
      clear hd
      rcases r with _ | ⟨e, r2⟩
      · have he := HER.out 20 (by omega) (HRT.out.trans (rtext_z s))
        have HE := Lib.hid he
        clear he hrd
        simp only [List.length_nil, Nat.zero_add] at hnr
        subst hnr
        go_wp2_with fail
        all_goals (
          have hfin := three_set (w := wr) HBLK.out (.int .u8 0) (.int .i64 0) (.string ⟨#[]⟩)
          obtain ⟨y0, y1, y2⟩ := three_cells hfin
          try rw [Exit.noGoto_ret]
          refine bodyPost_ret (v := .tuple #[nullA, .slice none 0 0, .int .i64 20]) (by simp [results, Try.results29, go_sem, y0, y1, y2]) rfl (retV_err HE.out (three_below (w := w) (wr := wr) hbel (Nat.le_refl _) _ _ _)))
      · have hcell2 : wr.cell? ⟨bb, oo + 1, none⟩ = some (.int .u8 (e.toNat : Int)) := by
          obtain ⟨b2, o2, hA2, _, hcc⟩ := hrd.at (k := 1) (by simp)
          cases hA2
          exact hcc 1 (b8 e) rfl
        obtain ⟨m, hm⟩ : ∃ m, m = (e :: r2).length := ⟨_, rfl⟩
        have hm1 : r2.length + 1 ≤ m := by rw [hm]; simp
        rw [← hm] at hnr hc' hll
        subst hnr
        obtain ⟨c1, rfl⟩ : ∃ c1, c0 = c1 + 1 := ⟨c0 - 1, by omega⟩
        have hc10 : ¬ c1 = 0 := by omega
        have hrd2 : Rd wr B (some ⟨bb, oo + 1, none⟩) (cells (e :: r2)) := by
          rw [if_neg (by omega)] at hrd'; exact hrd'
        obtain ⟨A'', c'', hsl, hrd'', hc''⟩ := from_any c1 1 (by simp) (by rw [← hm]; omega) hrd2
        rw [List.drop_one, List.tail_cons] at hsl hrd'' hc''
        rw [← hm] at hsl
        have hm0I : ((m : Int) == 0) = false := by simp; omega
        have hm2 : 0 < m := by omega
        have hed : e.toNat < 256 := e.toNat_lt
        have HRZ := Lib.hid (HRT.out.trans (rtext_zz s r2 e))
        have HRD := Lib.hid hrd''
        have hconv : (convert 22 9 (.slice A5 s.length c5)).run Try.prog wr.drew = .ok (.string ⟨s.toArray⟩) wr.drew := conv_own (w := wr.drew) hown
        have HCV := Lib.hid hconv
        have HHC := Lib.hid hc'
        clear hrd' hrd2 hrd hconv hm hc' HRT
        go_wp2_with fail
        refine ah_start 7 (fun w' => w'.cell? ⟨bb, oo + 1, none⟩ = some (.int .u8 (e.toNat : Int))) rfl (by kernel_rfl) hcell2 ?_ ; intro hS
        (refine mv_val 0 (v := ?_) rfl (by kernel_rfl) (by kernel_rfl) (by kernel_rfl) (fun _ _ _ h => h) (by rfl) hS ?_ ?_; rotate_left; (focus (intro w hSw; (try dsimp only at hSw); (have f1 := hSw; have f2 := hsl w 1 rfl; have f3 := hm2); go_simp; first | done | with_reducible rfl)); simp only [Act.put, List.setIfInBounds_toArray, List.set_cons_zero, List.set_cons_succ])
        (refine mv_val 1 (v := ?_) rfl (by kernel_rfl) (by kernel_rfl) (by kernel_rfl) (fun _ _ _ h => h) (by rfl) hS ?_ ?_; rotate_left; (focus (intro w hSw; (try dsimp only at hSw); (have f1 := hSw; have f2 := hsl w 1 rfl; have f3 := hm2); go_simp; first | done | with_reducible rfl)); simp only [Act.put, List.setIfInBounds_toArray, List.set_cons_zero, List.set_cons_succ])
        (refine mv_val 2 (v := ?_) rfl (by kernel_rfl) (by kernel_rfl) (by kernel_rfl) (fun _ _ _ h => h) (by rfl) hS ?_ ?_; rotate_left; (focus (intro w hSw; (try dsimp only at hSw); (have f1 := hSw; have f2 := hsl w 1 rfl; have f3 := hm2); go_simp; first | done | with_reducible rfl)); simp only [Act.put, List.setIfInBounds_toArray, List.set_cons_zero, List.set_cons_succ])
        (refine mv_val 3 (v := ?_) rfl (by kernel_rfl) (by kernel_rfl) (by kernel_rfl) (fun _ _ _ h => h) (by rfl) hS ?_ ?_; rotate_left; (focus (intro w hSw; (try dsimp only at hSw); (have f1 := hSw; have f2 := hsl w 1 rfl; have f3 := hm2); go_simp; first | done | with_reducible rfl)); simp only [Act.put, List.setIfInBounds_toArray, List.set_cons_zero, List.set_cons_succ])
        (refine mv_val 4 (v := ?_) rfl (by kernel_rfl) (by kernel_rfl) (by kernel_rfl) (fun _ _ _ h => h) (by rfl) hS ?_ ?_; rotate_left; (focus (intro w hSw; (try dsimp only at hSw); (have f1 := hSw; have f2 := hsl w 1 rfl; have f3 := hm2); go_simp; first | done | with_reducible rfl)); simp only [Act.put, List.setIfInBounds_toArray, List.set_cons_zero, List.set_cons_succ])
        (refine mv_val 5 (v := ?_) rfl (by kernel_rfl) (by kernel_rfl) (by kernel_rfl) (fun _ _ _ h => h) (by rfl) hS ?_ ?_; rotate_left; (focus (intro w hSw; (try dsimp only at hSw); (have f1 := hSw; have f2 := hsl w 1 rfl; have f3 := hm2); go_simp; first | done | with_reducible rfl)); simp only [Act.put, List.setIfInBounds_toArray, List.set_cons_zero, List.set_cons_succ])
        (refine mv_val 6 (v := ?_) rfl (by kernel_rfl) (by kernel_rfl) (by kernel_rfl) (fun _ _ _ h => h) (by rfl) hS ?_ ?_; rotate_left; (focus (intro w hSw; (try dsimp only at hSw); (have f1 := hSw; have f2 := hsl w 1 rfl; have f3 := hm2); go_simp; first | done | with_reducible rfl)); simp only [Act.put, List.setIfInBounds_toArray, List.set_cons_zero, List.set_cons_succ])
        refine wpAnyH_done (by kernel_rfl) ?_ _
        have hbd : Below w.heap.size w wr.drew := hbel.drew
        have hownd : wr.drew.ownsRow w.heap.size 5 1 (.slice A5 s.length c5) s.length (cells s) := hown
        have HBD : Hid (wr.drew.heap[w.heap.size]? = some (.cells #[.int .u8 0, .int .i64 0, .string ⟨#[]⟩] 39 (0, 0))) := HBLK
        have hrdd : Rd wr.drew B A'' (cells r2) := hrd''
        have q0d : wr.drew.cell? ⟨w.heap.size, 0, none⟩ = some (.int .u8 0) := q0
        have q1d : wr.drew.cell? ⟨w.heap.size, 1, none⟩ = some (.int .i64 0) := q1
        have q2d : wr.drew.cell? ⟨w.heap.size, 2, none⟩ = some (.string ⟨#[]⟩) := q2
        have z0d : wr.drew.frozen? ⟨w.heap.size, 0, none⟩ = false := z0
        have z1d : wr.drew.frozen? ⟨w.heap.size, 1, none⟩ = false := z1
        have z2d : wr.drew.frozen? ⟨w.heap.size, 2, none⟩ = false := z2
        have hcv := HCV.out
        have hszd : w.heap.size ≤ wr.drew.heap.size := hsz
        clear hsl hS hrd'' HRD HCV hown HBLK q0 q1 q2 z0 z1 z2 hcell hcell2 hsz
        generalize wr.drew = wd at *
        by_cases he1 : e = 1
        · subst he1
          have he := HOK.out s r2 (HRZ.out.trans (if_pos rfl))
          have HE := Lib.hid he
          clear he
          go_wp2_with fail
          have hfin := three_set (w := wd) HBD.out (.int .u8 3) (.int .i64 0) (.string ⟨s.toArray⟩)
          obtain ⟨y0, y1, y2⟩ := three_cells hfin
          try rw [Exit.noGoto_ret]
          refine bodyPost_ret (v := .tuple #[va ⟨3, 0, s⟩, .slice A'' r2.length c'', .int .i64 0]) (by simp [results, Try.results29, go_sem, y0, y1, y2]) rfl (retV_ok2 (w' := ((wd.setCell ⟨w.heap.size, 0, none⟩ (.int .u8 3)).setCell ⟨w.heap.size, 1, none⟩ (.int .i64 0)).setCell ⟨w.heap.size, 2, none⟩ (.string ⟨s.toArray⟩)) rfl HE.out (hrdd.below (three_below (Below.refl _ _) hB _ _ _)) hc'' (three_below (w := w) (wr := wd) hbd (Nat.le_refl _) _ _ _))
        have HRY := Lib.hid (HRZ.out.trans (if_neg he1))
        have he1I : ((e.toNat : Int) == 1) = false := by
          simp only [beq_eq_false_iff_ne, ne_eq]
          intro h
          exact he1 (UInt8.toNat_inj.1 (by show e.toNat = 1; omega))
        clear he1 HRZ
        by_cases he2 : e = 255
        · subst he2
          have HRX := Lib.hid (HRY.out.trans (if_pos rfl))
          clear hcv
          go_wp2_with (at_builtin; refine wpList_app El_u8 rfl _ _ rfl (hownd.alloc _) rfl rfl (by exact rd_one _ _ _ _ _ rfl (Nat.lt_add_one _)) rfl one_int (by unfold maxLen; omega) (by omega) (by simp; omega) ?_; intro v2 w3 hown3 hg3 ho3)
          have hb3 : Below w.heap.size w w3 := (hbd.alloc hbd.size _).trans (own_below (hownd.alloc _) hg3 (by simp; omega))
          have hyl := lt_of_block HBD.out
          go_roundw
          case rel =>
            refine ⟨s ++ [0], r2, _, _, rfl, hc'', ?_, ?_, nb_app ho3 hnb (by simp; omega), by simp; omega, HRX.out, ?_, hb3⟩
            · exact ((hrdd.alloc (by omega) _).keep fun b' o' hb' => World.cell?_of_block (hg3.block b' (by simp; omega) (fun e => hnbB b' hb' e.symm)))
            · rw [cells_append, List.length_append, List.length_singleton]; exact hown3
            · exact grown_block hg3 ((Below.heap_alloc _ _ _ hyl).trans HBD.out) hnb
          case measure => simp [lenOf]; omega
        · have he := HER.out 21 (by omega) (HRY.out.trans (if_neg he2))
          have HE := Lib.hid he
          have he2I : ((e.toNat : Int) == 255) = false := by
            simp only [beq_eq_false_iff_ne, ne_eq]
            intro h
            exact he2 (UInt8.toNat_inj.1 (by show e.toNat = 255; omega))
          clear he he2 hcv
          go_wp2_with fail
          have hfin := three_set (w := wd) HBD.out (.int .u8 0) (.int .i64 0) (.string ⟨#[]⟩)
          obtain ⟨y0, y1, y2⟩ := three_cells hfin
          try rw [Exit.noGoto_ret]
          refine bodyPost_ret (v := .tuple #[nullA, .slice none 0 0, .int .i64 21]) (by simp [results, Try.results29, go_sem, y0, y1, y2]) rfl (retV_err HE.out (three_below (w := w) (wr := wd) hbd (Nat.le_refl _) _ _ _))
end Go.Proofs.Ytdbhbfpfcdklmaa

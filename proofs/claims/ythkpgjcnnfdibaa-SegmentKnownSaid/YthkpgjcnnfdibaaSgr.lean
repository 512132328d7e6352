/- Joined texts: see the remark ahead of each part. No condition but those that the parts name. -/
import Derived.Test.YthkpgjcnnfdibaaSgm
import Derived.Deep.DeepCutAuto
/-! SegmentKnown (layer 7): plain facts at closed inputs, and contracts in the form that the walk takes. No condition but those named. -/
namespace Go.Proofs.Ythkpgjcnnfdibaa
open Go.RowKit Go.Maps
set_option linter.unusedVariables false
set_option linter.unusedSimpArgs false

def exBad : List UInt8 := [2, 2, 0, 18, 2, 0, 40, 5, 0, 1, 20, 1, 0]
def exNone : List UInt8 := [0, 1, 1, 1, 1, 0]
def exBare : List UInt8 := [2, 0, 0]
theorem kn_a : rowsE (sopen [2] []) = ([], 21) := by decide +kernel
theorem kn_b : rowsE (sopen [2] [exP, []]) = ([], 21) := by decide +kernel
theorem kn_c : rowsE (sopen [2] [[]]) = ([], 21) := by decide +kernel
theorem kn_d : rowsE (sopen [0] [exP]) = ([], 1) := by decide +kernel
theorem kn_e : rowsE (sopen [2] [exBad]) = ([], 21) := by decide +kernel
theorem kn_f : segMake [2] [] = ([exNone], 0) := by decide +kernel
theorem kn_g : rowsE (sopen [2] [exNone]) = ([], 0) := by decide +kernel
theorem kn_h : segMake [] [[], []] = ([exBare], 0) := by decide +kernel
theorem kn_i : rowsE (sopen [] [exBare]) = ([[], []], 0) := by decide +kernel
theorem kn_j : segMake [2] [[]] = ([], 1) := by decide +kernel
theorem kn_bad : cells exBad = (cells exP).set 3 (.int .u8 18) := by simp [cells, exBad, exP]
/-- few bytes -/
theorem kn_few {ps : List (List UInt8)} (h : ps.flatten.length ≤ 100) : ps.flatten.length ≤ 1000000 ∧ ((vget ps.flatten).1 ≤ 65536 → ((vget ps.flatten).1 + 1) * (ps.flatten.length + 10) ≤ 4000000000) := by
  refine ⟨by omega, fun h6 => ?_⟩
  have h7 : (vget ps.flatten).1 + 1 ≤ 65537 := by omega
  have h8 : ps.flatten.length + 10 ≤ 110 := by omega
  exact Nat.le_trans (Nat.mul_le_mul h7 h8) (by decide)
/-! ### many rows of Null -/
theorem nul_row : rowok [2] [null] = true := by decide +kernel
theorem nul_ok (n : Nat) : rowsOk [2] (List.replicate n [null]) = true := by
  unfold rowsOk
  rw [List.all_eq_true]
  intro r hr
  rw [(List.mem_replicate.1 hr).2]
  exact nul_row
theorem nul_vsm (n : Nat) : ∀ r ∈ List.replicate n [null], r.length ≤ 1000000 ∧ (∀ v ∈ r, vsm v) ∧ (rbytes r).length ≤ 4294967296 := fun r hr => by
  rw [(List.mem_replicate.1 hr).2]
  exact ⟨by simp, fun v hv => by simp at hv; rw [hv]; exact vsm_null, by decide +kernel⟩
theorem nul_cols (n : Nat) : colsOf 1 (List.replicate n [null]) = [List.replicate n null] := by
  unfold colsOf
  show [colAt (List.replicate n [null]) 0] = _
  unfold colAt
  rw [List.map_replicate]
  rfl
theorem nul_marks (n : Nat) : marks (List.replicate n null) = [] := by
  unfold marks
  rw [List.filter_eq_nil_iff]
  intro v hv
  rw [(List.mem_replicate.1 hv).2]; decide
theorem nul_put (n : Nat) (hn : n ≤ 65536) : cput 2 (List.replicate n null) = (bitsN n (nullAt (List.replicate n null)), 0) := by
  have h : colok 2 (List.replicate n null) = true := by
    unfold colok
    simp only [List.length_replicate, Bool.and_eq_true, decide_eq_true_eq, List.all_eq_true]
    refine ⟨by decide, hn, fun v hv => ?_⟩
    rw [(List.mem_replicate.1 hv).2]; decide
  rw [cput_of h, nul_marks, List.length_replicate, show cbody 2 [] = [] by decide +kernel, List.append_nil]
theorem kn_n_of (n : Nat) (hn : 65536 < n) : segMake [2] (List.replicate n [null]) = ([], 2) := by
  unfold segMake
  rw [if_neg (by decide), if_neg (by rw [nul_ok]; simp), if_pos (by rw [List.length_replicate]; exact hn)]
theorem nul_bnds (n : Nat) : bnds (List.replicate n null) = (null, null) := by
  have hg : ∀ v ∈ List.replicate n null, good v := fun v hv => by rw [(List.mem_replicate.1 hv).2]; exact ⟨by decide, by unfold i64r; decide⟩
  rw [bnds_eq _ hg]
  unfold bndV
  rw [nul_marks]
  rfl
theorem kn_o_of (n : Nat) (hn : n = 65536) : ∃ q, segMake [2] (List.replicate n [null]) = (q, 0) ∧ q.length = 9 ∧ sopen [2] q = ⟨[List.replicate n null], n, [null], [null], 0⟩ ∧ q.flatten.length ≤ 1000000 ∧ ((vget q.flatten).1 ≤ 65536 → ((vget q.flatten).1 + 1) * (q.flatten.length + 10) ≤ 4000000000) ∧
    (segBytes [2] n (colsOf 1 (List.replicate n [null]))).length ≤ 3900000000 := by
  have hk : knownT [2] = true := by decide
  have hl : (List.replicate n [null]).length = n := List.length_replicate
  have hc := colsOk_of (T := [2]) hk (nul_ok n) (by rw [hl]; omega) (fun r hr => (nul_vsm n r hr).2.1)
  rw [hl, show ([2] : List UInt8).length = 1 from rfl, nul_cols] at hc
  have hle : least [List.replicate n null] = [null] := by unfold least; rw [List.map_cons, nul_bnds]; rfl
  have hgr : greatest [List.replicate n null] = [null] := by unfold greatest; rw [List.map_cons, nul_bnds]; rfl
  have hrp : (rput [2] [null]).1.length = 1 := by decide +kernel
  have hcp : (cput 2 (List.replicate n null)).1.length = (n + 7) / 8 := by
    rw [nul_put n (by omega)]
    dsimp only
    rw [bitsN_len]
    rfl
  obtain ⟨C, hC⟩ : ∃ C, C = (cput 2 (List.replicate n null)).1 := ⟨_, rfl⟩
  obtain ⟨R, hR⟩ : ∃ R, R = (rput [2] [null]).1 := ⟨_, rfl⟩
  have hb : segBytes [2] n [List.replicate n null] = vput n ++ (part1 R ++ (part1 R ++ part1 C)) := by
    unfold segBytes segHead
    rw [hle, hgr, ← hR, hC, List.zip_cons_cons, List.zip_nil_left, List.flatMap_cons, List.flatMap_nil, List.append_nil]
    unfold cpart
    simp only [List.append_assoc]
  rw [← hC] at hcp
  rw [← hR] at hrp
  have hv := vput_length64 (show n < 18446744073709551616 by omega)
  have p1 := part1_len (p := R) (by omega)
  have p2 := part1_len (p := C) (by omega)
  have p3 := part1_le C
  have hlen : 8192 ≤ (segBytes [2] n [List.replicate n null]).length ∧ (segBytes [2] n [List.replicate n null]).length ≤ 8300 := by
    rw [hb]
    simp only [List.length_append]
    omega
  have hvg : (vget (segBytes [2] n [List.replicate n null])).1 = n := by rw [hb, vget_vput (by omega)]
  have hso := sopen_put hk (show n ≤ 65536 by omega) hc (by omega)
  rw [hle, hgr] at hso
  have hm : segMake [2] (List.replicate n [null]) = (chunk (segBytes [2] n [List.replicate n null]), 0) := by
    unfold segMake
    rw [if_neg (by decide), if_neg (by rw [nul_ok]; simp), if_neg (by rw [List.length_replicate]; omega), List.length_replicate, show ([2] : List UInt8).length = 1 from rfl, nul_cols]
  refine ⟨_, hm, by rw [chunk_length]; unfold many; omega, hso, by rw [chunk_flat]; omega, ?_, by rw [nul_cols]; omega⟩
  rw [chunk_flat, hvg]
  intro _
  have h7 : n + 1 ≤ 65537 := by omega
  have h8 : (segBytes [2] n [List.replicate n null]).length + 10 ≤ 8310 := by omega
  exact Nat.le_trans (Nat.mul_le_mul h7 h8) (by decide)
/-- rows as they are laid -/
def nulTo (n k : Nat) : List (List V) := List.replicate k [null] ++ List.replicate (n - k) []
theorem nulTo_0 (n : Nat) : nulTo n 0 = List.replicate n [] := by simp [nulTo]
theorem nulTo_end (n : Nat) : nulTo n n = List.replicate n [null] := by simp [nulTo]
theorem nulTo_length {n k : Nat} (h : k ≤ n) : (nulTo n k).length = n := by simp [nulTo]; omega
theorem nulTo_at {n k : Nat} (h : k < n) : (nulTo n k)[k]? = some [] := by
  unfold nulTo
  rw [List.getElem?_append_right (by simp), List.length_replicate, Nat.sub_self, List.getElem?_replicate, if_pos (by omega)]
theorem nulTo_set {n k : Nat} (h : k < n) : (nulTo n k).set k [null] = nulTo n (k + 1) := by
  apply List.ext_getElem?
  intro j
  rw [List.getElem?_set, nulTo_length (by omega)]
  unfold nulTo
  rw [List.getElem?_append, List.getElem?_append, List.length_replicate, List.length_replicate, List.getElem?_replicate, List.getElem?_replicate, List.getElem?_replicate, List.getElem?_replicate]
  by_cases hjk : k = j
  · subst hjk
    rw [if_pos rfl, if_pos h, if_pos (show k < k + 1 by omega), if_pos (show k < k + 1 by omega)]
  · rw [if_neg hjk]
    by_cases h1 : j < k
    · rw [if_pos h1, if_pos h1, if_pos (show j < k + 1 by omega), if_pos (show j < k + 1 by omega)]
    · rw [if_neg h1, if_neg (show ¬ j < k + 1 by omega)]
      by_cases h2 : j < n
      · rw [if_pos (show j - k < n - k by omega), if_pos (show j - (k + 1) < n - (k + 1) by omega)]
      · rw [if_neg (show ¬ j - k < n - k by omega), if_neg (show ¬ j - (k + 1) < n - (k + 1) by omega)]
/-! ### contracts -/
theorem open2 (T : List UInt8) (ps : List (List UInt8)) (r : List (List V) × Nat) (A A' : Option Addr) (c c' n k m : Nat) (x : Int) (w : World) (hn : n = T.length) (hk : k = ps.length) (hres : rowsE (sopen T ps) = r) (hm : r.1.length = m) (hx : (r.2 : Int) = x)
    (hT : Rd w w.heap.size A (cells T)) (hr : RdBB w w.heap.size A' ps) (h1 : T.length ≤ 12) (h2 : ps.length ≤ 1000) (h3 : ps.flatten.length ≤ 1000000 ∧ ((vget ps.flatten).1 ≤ 65536 → ((vget ps.flatten).1 + 1) * (ps.flatten.length + 10) ≤ 4000000000)) :
    Calls Try.prog 18 #[.slice A n c, .slice A' k c'] w fun e w' => ∃ A1 c1, e = .returned (.tuple #[.slice A1 m c1, .int .i64 x]) ∧ Below w.heap.size w w' := by
  subst hn hk hm hx
  have h := sgopen_any A A' c c' T ps w hT hr (by omega) (by omega) h3.1 h3.2
  rw [hres] at h
  exact h.mono (by rintro e w' ⟨A1, c1, rfl, _, hb⟩; exact ⟨A1, c1, rfl, hb⟩)
theorem make2 (T : List UInt8) (rows : List (List V)) (r : List (List UInt8) × Nat) (A A' : Option Addr) (c c' n k m : Nat) (x : Int) (w : World) (hn : n = T.length) (hk : k = rows.length) (hres : segMake T rows = r) (hm : r.1.length = m) (hx : (r.2 : Int) = x)
    (hT : Rd w w.heap.size A (cells T)) (hr : RdVV w w.heap.size A' rows) (h1 : T.length ≤ 12) (h2 : rows.length ≤ 1000000) (h3 : ∀ r ∈ rows, r.length ≤ 1000000 ∧ (∀ v ∈ r, vsm v) ∧ (rbytes r).length ≤ 4294967296) (h4 : rows.length ≤ 65536 → (segBytes T rows.length (colsOf T.length rows)).length ≤ 3900000000) :
    Calls Try.prog 11 #[.slice A n c, .slice A' k c'] w fun e w' => ∃ A1 c1, e = .returned (.tuple #[.slice A1 m c1, .int .i64 x]) ∧ RdBB w' w'.heap.size A1 r.1 ∧ Below w.heap.size w w' := by
  subst hn hk hm hx
  have h := smake_any w.heap.size A A' c c' T rows w hT hr (Nat.le_refl _) (by omega) h2 h3 (fun _ _ h => h4 h)
  rw [hres] at h
  exact h.mono (by rintro e w' ⟨A1, c1, rfl, ho, hb⟩; exact ⟨A1, c1, rfl, ho.rd, hb⟩)
/-- slices laid into a fresh block -/
theorem lay_nest {β : Type} {f : β → List Value} {n : β → Nat} (w : World) (Ty : TypeId) (ss : List (Option Addr × Nat × Nat)) (bs : List β) (h : ss.length = bs.length) (hi : ∀ (i : Nat) (s : Option Addr × Nat × Nat) (b : β), ss[i]? = some s → bs[i]? = some b → s.2.1 = n b ∧ n b ≤ s.2.2 ∧ Rd w w.heap.size s.1 (f b)) :
    RdN f n (w.alloc (.cells (ss.map sl3).toArray Ty)) (w.alloc (.cells (ss.map sl3).toArray Ty)).heap.size (some ⟨w.heap.size, 0, none⟩) bs :=
  ⟨ss, h, by rw [World.size_alloc]; exact rd_arr w _ Ty _ _ rfl (Nat.lt_succ_self _), fun i s b hs hb => by
    obtain ⟨a1, a2, a3⟩ := hi i s b hs hb
    exact ⟨a1, a2, by rw [World.size_alloc]; exact (a3.alloc (Nat.le_refl _) _).more (Nat.le_succ _)⟩⟩
theorem RdN.drop1 {β : Type} {f : β → List Value} {n : β → Nat} {w : World} {B : Nat} {A : Option Addr} {bs : List β} (h : RdN f n w B A bs) : RdN f n w B (A.map (·.add 1)) (bs.drop 1) := by
  obtain ⟨ss, h1, h2, h3⟩ := h
  refine ⟨ss.drop 1, by rw [List.length_drop, List.length_drop, h1], ?_, fun i s b hs hb => ?_⟩
  · have h4 := h2.cut 1 False (fun e => e.elim)
    rw [if_neg (fun e => e)] at h4
    rw [List.map_drop]; exact h4
  · rw [List.getElem?_drop] at hs hb
    exact h3 (1 + i) s b hs hb
theorem run_from_vs (A : Option Addr) (n c u : Nat) (hu : u ≤ n) (w : World) :
    (Instr.sliceAt 23 (.slice A n c) (some (.int .i64 (u : Int))) none none).run Try.prog w = .ok (.slice (if c = u then A else A.map (·.add u)) (n - u) (c - u)) w := by
  obtain ⟨i0, hi, hz0, hz1, hz2⟩ := info_parts Try.infoVs
  simp [Instr.sliceAt, Instr.slice, run_underlying Try.underlying23, Instr.sliceBounds, run_sliceBound, sizeOf, typeInfo, hi, hz1, (by omega : (0 : Int) ≤ (u : Int)), (by omega : (u : Int) ≤ (n : Int))]
end Go.Proofs.Ythkpgjcnnfdibaa

/-! The walk of SegmentKnown (layer 7). No condition. -/
namespace Go.Proofs.Ythkpgjcnnfdibaa
open Go.RowKit Go.Maps
set_option linter.unusedVariables false
set_option linter.unusedSimpArgs false

set_option maxHeartbeats 16000000 in
set_option maxRecDepth 100000 in
theorem segmentKnown_walk (W : World) : Calls Try.prog 8 #[] W fun e w' => e = .returned (.bool true) ∧ Below W.heap.size W w' := by
  obtain ⟨hT, hR, hb0⟩ := ex_lay W
  have HM := Lib.hid (make2 [2] exR ([exP], 0) (some ⟨W.heap.size, 0, none⟩) (some ⟨W.heap.size + 1 + 1 + 1, 0, none⟩) 1 2 1 2 1 0 (exW W) rfl rfl ex_make rfl rfl hT hR (by simp) (by simp [exR]) vsm_ex (fun _ => ex_size))
  have HB0 := Lib.hid hb0
  have HT0 := Lib.hid hT
  clear hT hR hb0
  go_enter Try.func8, Try.ntmps8
  go_wp2_with fail
  refine HM.out.mono ?_; rintro e w1 ⟨A1, c1, rfl, rd1, hb1⟩
  have HT := Lib.hid (fun (w' : World) (h : Below w1.heap.size w1 w') => (HT0.out.next hb1).next h)
  have HB1 := Lib.hid (HB0.out.trans (hb1.mono HB0.out.size))
  obtain ⟨g, o, a, cc, hA, hg, q0, hcc, hra⟩ := rdN_at rd1 (i := 0) (b := exP) rfl
  subst hA
  rw [Nat.add_zero] at q0
  have q1 : w1.cell? ⟨g, o, none⟩ = some (.slice a 13 cc) := q0
  have hcc13 : 13 ≤ cc := hcc
  have HQ := Lib.hid (fun (w' : World) (h : Below w1.heap.size w1 w') => cell_be q1 h hg)
  have HR := Lib.hid (fun (w' : World) (h : Below w1.heap.size w1 w') => (show Rd w1 w1.heap.size a (cells exP) from hra).next h)
  have HP := Lib.hid (fun (w' : World) (h : Below w1.heap.size w1 w') => rd1.next h)
  have K1 := Lib.hid (open2 [2] [] ([], 21) (some ⟨W.heap.size, 0, none⟩) none 1 0 1 0 0 21 w1 rfl rfl kn_a rfl rfl (HT.out w1 (Below.refl _ _)) (RdN.nil _ _ _) (by simp) (by simp) (kn_few (by simp)))
  clear HM HB0 HT0 rd1 hb1 q0 q1 hcc hra
  go_wp2_with fail
  refine K1.out.mono ?_; rintro e w2 ⟨A2, c2, rfl, hp2⟩
  have hz2 := hp2.size
  have q2 := HQ.out w2 hp2
  have q2' := cell_al q2 (by show g < _; omega) (.cells #[] 5)
  have K2 : Calls Try.prog 18 #[.slice (some ⟨W.heap.size, 0, none⟩) 1 1, .slice (some ⟨w2.heap.size + 1, 0, none⟩) 2 2] ((w2.alloc (.cells #[] 5)).alloc (.cells #[.slice a 13 cc, .slice (some ⟨w2.heap.size, 0, none⟩) 0 0] 22)) fun e w' => ∃ A1 c1, e = .returned (.tuple #[.slice A1 0 c1, .int .i64 21]) ∧ Below ((w2.alloc (.cells #[] 5)).alloc (.cells #[.slice a 13 cc, .slice (some ⟨w2.heap.size, 0, none⟩) 0 0] 22)).heap.size ((w2.alloc (.cells #[] 5)).alloc (.cells #[.slice a 13 cc, .slice (some ⟨w2.heap.size, 0, none⟩) 0 0] 22)) w' := by
    have hpa : Below w1.heap.size w1 (w2.alloc (.cells #[] 5)) := hp2.alloc hz2 _
    have L := lay_nest (f := cells) (n := List.length (α := UInt8)) (w2.alloc (.cells #[] 5)) 22 [(a, 13, cc), (some ⟨w2.heap.size, 0, none⟩, 0, 0)] [exP, []] rfl (fun i s b hs hb => by
      match i, hs, hb with
      | 0, hs, hb => simp at hs hb; subst hs hb; exact ⟨rfl, hcc13, HR.out _ hpa⟩
      | 1, hs, hb => simp at hs hb; subst hs hb; exact ⟨rfl, Nat.le_refl _, .inl rfl⟩
      | i + 2, hs, hb => simp at hs)
    rw [show (w2.alloc (.cells #[] 5)).heap.size = w2.heap.size + 1 from World.size_alloc _ _] at L
    exact open2 [2] [exP, []] ([], 21) (some ⟨W.heap.size, 0, none⟩) (some ⟨w2.heap.size + 1, 0, none⟩) 1 2 1 2 0 21 _ rfl rfl kn_b rfl rfl (HT.out _ (hpa.alloc hpa.size _)) L (by simp) (by simp) (kn_few (by decide))
  have HK2 := Lib.hid K2
  have hpa2 : Below w1.heap.size w1 ((w2.alloc (.cells #[] 5)).alloc (.cells #[.slice a 13 cc, .slice (some ⟨w2.heap.size, 0, none⟩) 0 0] 22)) := (hp2.alloc hz2 _).alloc (by simp; omega) _
  clear K2 K1
  go_wp2_with fail
  refine HK2.out.mono ?_; rintro e w3 ⟨A3, c3, rfl, hb3⟩
  have hp3 := hpa2.trans (hb3.mono hpa2.size)
  have hz3 := hp3.size
  clear HK2 hpa2 hb3 q2 q2' hz2 hp2
  have K3 : Calls Try.prog 18 #[.slice (some ⟨W.heap.size, 0, none⟩) 1 1, .slice (some ⟨w3.heap.size + 1, 0, none⟩) 1 1] ((w3.alloc (.cells #[] 5)).alloc (.cells #[.slice (some ⟨w3.heap.size, 0, none⟩) 0 0] 22)) fun e w' => ∃ A1 c1, e = .returned (.tuple #[.slice A1 0 c1, .int .i64 21]) ∧ Below ((w3.alloc (.cells #[] 5)).alloc (.cells #[.slice (some ⟨w3.heap.size, 0, none⟩) 0 0] 22)).heap.size ((w3.alloc (.cells #[] 5)).alloc (.cells #[.slice (some ⟨w3.heap.size, 0, none⟩) 0 0] 22)) w' := by
    have hpa : Below w1.heap.size w1 (w3.alloc (.cells #[] 5)) := hp3.alloc hz3 _
    have L := lay_nest (f := cells) (n := List.length (α := UInt8)) (w3.alloc (.cells #[] 5)) 22 [(some ⟨w3.heap.size, 0, none⟩, 0, 0)] [[]] rfl (fun i s b hs hb => by
      match i, hs, hb with
      | 0, hs, hb => simp at hs hb; subst hs hb; exact ⟨rfl, Nat.le_refl _, .inl rfl⟩
      | i + 1, hs, hb => simp at hs)
    rw [show (w3.alloc (.cells #[] 5)).heap.size = w3.heap.size + 1 from World.size_alloc _ _] at L
    exact open2 [2] [[]] ([], 21) (some ⟨W.heap.size, 0, none⟩) (some ⟨w3.heap.size + 1, 0, none⟩) 1 1 1 1 0 21 _ rfl rfl kn_c rfl rfl (HT.out _ (hpa.alloc hpa.size _)) L (by simp) (by simp) (kn_few (by decide))
  have HK3 := Lib.hid K3
  have hpa3 : Below w1.heap.size w1 ((w3.alloc (.cells #[] 5)).alloc (.cells #[.slice (some ⟨w3.heap.size, 0, none⟩) 0 0] 22)) := (hp3.alloc hz3 _).alloc (by simp; omega) _
  clear K3
  go_wp2_with fail
  refine HK3.out.mono ?_; rintro e w4 ⟨A4, c4, rfl, hb4⟩
  have hp4 := hpa3.trans (hb4.mono hpa3.size)
  have hz4 := hp4.size
  clear HK3 hpa3 hb4 hz3 hp3
  have hpa4 : Below w1.heap.size w1 (w4.alloc (.cells #[.int .u8 0] 5)) := hp4.alloc hz4 _
  have K4 := Lib.hid (open2 [0] [exP] ([], 1) (some ⟨w4.heap.size, 0, none⟩) (some ⟨g, o, none⟩) 1 c1 1 1 0 1 (w4.alloc (.cells #[.int .u8 0] 5)) rfl rfl kn_d rfl rfl (by rw [World.size_alloc]; exact rd_arr w4 (cells [0]) 5 _ _ rfl (Nat.lt_succ_self _)) (HP.out _ hpa4) (by simp) (by simp) (kn_few (by decide)))
  go_wp2_with fail
  refine K4.out.mono ?_; rintro e w5 ⟨A5, c5, rfl, hb5⟩
  have hp5 := hpa4.trans (hb5.mono hpa4.size)
  have hz5 := hp5.size
  have q5 := cell_al (HQ.out w5 hp5) (by show g < _; omega) (.cells #[] 5)
  have q5' := HQ.out w5 hp5
  have r5 := HR.out _ (hp5.alloc hz5 (.cells #[] 5))
  clear K4 hpa4 hb5 hp4 hz4
  go_wp2_with (at_builtin; refine wpList_app El_u8 rfl _ _ rfl (lit0B w5) rfl rfl r5 (by rfl) (cells_one exP) (by unfold maxLen; omega) (by omega) (by simp) ?_; intro v6 w6 hown6 hg6 _; rw [Nat.zero_add, List.nil_append] at hown6; obtain ⟨gb, cb, rfl, hgb, hgb2⟩ := own_ptr hown6 (by omega); have k3 : w6.cell? ⟨gb, 3, none⟩ = some (.int .u8 20) := (hown6.cellAt 3 (by omega)).trans (by simp [cells, exP]); have z3 := hown6.frozenAt 3; have hb56 : Below w5.heap.size w5 w6 := ((Below.refl _ w5).alloc (Nat.le_refl _) _).trans (own_below (lit0B w5) hg6 (by simp)))
  have hp6 := hp5.trans (hb56.mono hz5)
  have hcb := own_le hown6
  have r7 := rd_own (hown6.stored 3 (.int .u8 18)).1
  rw [← kn_bad] at r7
  obtain ⟨w7, hw7⟩ : ∃ w7, w7 = w6.setCell ⟨gb, 3, none⟩ (.int .u8 18) := ⟨_, rfl⟩
  have hp7 : Below w1.heap.size w1 w7 := by rw [hw7]; exact hp6.setCell (by show _ ≤ gb; omega) _
  have hs7 : w7.heap.size = w6.heap.size := by rw [hw7]; simp
  rw [← hw7] at r7 ⊢
  rw [← hs7]
  have L5 := lay_nest (f := cells) (n := List.length (α := UInt8)) w7 22 [(some ⟨gb, 0, none⟩, 13, cb)] [exBad] rfl (fun i s b hs hb => by
      match i, hs, hb with
      | 0, hs, hb => simp at hs hb; subst hs hb; exact ⟨rfl, hcb, r7⟩
      | i + 1, hs, hb => simp at hs)
  have hp7a := hp7.alloc hp7.size (.cells #[.slice (some ⟨gb, 0, none⟩) 13 cb] 22)
  have K5 := open2 [2] [exBad] ([], 21) (some ⟨W.heap.size, 0, none⟩) (some ⟨w7.heap.size, 0, none⟩) 1 1 1 1 0 21 _ rfl rfl kn_e rfl rfl (HT.out _ hp7a) L5 (by simp) (by simp) (kn_few (by decide))
  refine K5.mono ?_; rintro e w8 ⟨A8, c8, rfl, hb8⟩
  have hp8 := hp7a.trans (hb8.mono hp7a.size)
  clear K5 L5 hb8 hp7a r7 hw7 hs7 hp7 hcb hp6 hb56 z3 k3 hgb hgb2 hown6 hg6 r5 q5 q5' hz5 hp5
  have K6 := Lib.hid (make2 [2] [] ([exNone], 0) (some ⟨W.heap.size, 0, none⟩) none 1 0 1 0 1 0 w8 rfl rfl kn_f rfl rfl (HT.out w8 hp8) (RdN.nil _ _ _) (by simp) (by simp) (by simp) (by decide +kernel))
  go_wp2_with fail
  refine K6.out.mono ?_; rintro e w9 ⟨A9, c9, rfl, rd9, hb9⟩
  have hp9 := hp8.trans (hb9.mono hp8.size)
  have K7 := Lib.hid (open2 [2] [exNone] ([], 0) (some ⟨W.heap.size, 0, none⟩) A9 1 c9 1 1 0 0 w9 rfl rfl kn_g rfl rfl (HT.out w9 hp9) rd9 (by simp) (by simp) (kn_few (by decide)))
  clear K6 rd9 hb9 hp8
  go_wp2_with fail
  refine K7.out.mono ?_; rintro e w10 ⟨A10, c10, rfl, hb10⟩
  have hp10 := hp9.trans (hb10.mono hp9.size)
  have hz10 := hp10.size
  have L8 := lay_nest (f := vcells) (n := List.length (α := V)) ((w10.alloc (.cells #[] 46)).alloc (.cells #[] 46)) 37 [(some ⟨w10.heap.size, 0, none⟩, 0, 0), (some ⟨w10.heap.size + 1, 0, none⟩, 0, 0)] [[], []] rfl (fun i s b hs hb => by
      match i, hs, hb with
      | 0, hs, hb => simp at hs hb; subst hs hb; exact ⟨rfl, Nat.le_refl _, .inl rfl⟩
      | 1, hs, hb => simp at hs hb; subst hs hb; exact ⟨rfl, Nat.le_refl _, .inl rfl⟩
      | i + 2, hs, hb => simp at hs)
  rw [show ((w10.alloc (.cells #[] 46)).alloc (.cells #[] 46)).heap.size = w10.heap.size + 1 + 1 by simp] at L8
  have hp10a := ((hp10.alloc hz10 (.cells #[] 46)).alloc (by simp; omega) (.cells #[] 46)).alloc (by simp; omega) (.cells #[.slice (some ⟨w10.heap.size, 0, none⟩) 0 0, .slice (some ⟨w10.heap.size + 1, 0, none⟩) 0 0] 37)
  have K8 := Lib.hid (make2 [] [[], []] ([exBare], 0) none (some ⟨w10.heap.size + 1 + 1, 0, none⟩) 0 2 0 2 1 0 _ rfl rfl kn_h rfl rfl (.inl rfl) L8 (by simp) (by simp) (by simp; decide +kernel) (by decide +kernel))
  clear K7 hb10 L8 hp9
  go_wp2_with fail
  refine K8.out.mono ?_; rintro e w11 ⟨A11, c11, rfl, rd11, hb11⟩
  have hp11 := hp10a.trans (hb11.mono hp10a.size)
  have K9 := Lib.hid (open2 [] [exBare] ([[], []], 0) none A11 0 c11 0 1 2 0 w11 rfl rfl kn_i rfl rfl (.inl rfl) rd11 (by simp) (by simp) (kn_few (by decide)))
  clear K8 rd11 hb11 hp10a hz10 hp10
  go_wp2_with fail
  refine K9.out.mono ?_; rintro e w12 ⟨A12, c12, rfl, hb12⟩
  have hp12 := hp11.trans (hb12.mono hp11.size)
  have hz12 := hp12.size
  have L10 := lay_nest (f := vcells) (n := List.length (α := V)) (w12.alloc (.cells #[] 46)) 37 [(some ⟨w12.heap.size, 0, none⟩, 0, 0)] [[]] rfl (fun i s b hs hb => by
      match i, hs, hb with
      | 0, hs, hb => simp at hs hb; subst hs hb; exact ⟨rfl, Nat.le_refl _, .inl rfl⟩
      | i + 1, hs, hb => simp at hs)
  rw [show (w12.alloc (.cells #[] 46)).heap.size = w12.heap.size + 1 by simp] at L10
  have hp12a := (hp12.alloc hz12 (.cells #[] 46)).alloc (by simp; omega) (.cells #[.slice (some ⟨w12.heap.size, 0, none⟩) 0 0] 37)
  have K10 := Lib.hid (make2 [2] [[]] ([], 1) (some ⟨W.heap.size, 0, none⟩) (some ⟨w12.heap.size + 1, 0, none⟩) 1 1 1 1 0 1 _ rfl rfl kn_j rfl rfl (HT.out _ hp12a) L10 (by simp) (by simp) (by simp; decide +kernel) (by decide +kernel))
  clear K9 hb12 L10 hp11
  go_wp2_with fail
  refine K10.out.mono ?_; rintro e w13 ⟨A13, c13, rfl, _, hb13⟩
  have hp13 := hp12a.trans (hb13.mono hp12a.size)
  obtain ⟨w14, hmk0, hown14, hb14⟩ := make_vv w13 1 (by omega)
  have hmk14 : (Instr.makeSlice 23 (.int .i64 1) (.int .i64 1)).run Try.prog w13 = .ok (.slice (some ⟨w13.heap.size, 0, none⟩) 1 1) w14 := hmk0
  have hp14 := hp13.trans (hb14.mono hp13.size)
  have K11 := Lib.hid (make2 [2] [[]] ([], 1) (some ⟨W.heap.size, 0, none⟩) (some ⟨w13.heap.size, 0, none⟩) 1 1 1 1 0 1 w14 rfl rfl kn_j rfl rfl (HT.out _ hp14) hown14.rd (by simp) (by simp) (by simp; decide +kernel) (by decide +kernel))
  clear K10 hb13 hp12a hz12 hp12 hmk0 hown14 hb14
  go_wp2_with fail
  refine K11.out.mono ?_; rintro e w15 ⟨A15, c15, rfl, _, hb15⟩
  have hp15 := hp14.trans (hb15.mono hp14.size)
  clear K11 hb15 hp14 hp13 hmk14
  obtain ⟨N, hN⟩ : ∃ N : Nat, N = 65537 := ⟨_, rfl⟩
  obtain ⟨w16, hmk0, hown16, hb16⟩ := make_vv w15 N (by omega)
  have hmk16 : (Instr.makeSlice 23 (.int .i64 65537) (.int .i64 65537)).run Try.prog w15 = .ok (.slice (some ⟨w15.heap.size, 0, none⟩) N N) w16 := by
    have h := hmk0
    rw [show ((N : Nat) : Int) = 65537 by rw [hN]; rfl] at h
    exact h
  obtain ⟨gl, hgl⟩ : ∃ g, g = w15.heap.size := ⟨_, rfl⟩
  rw [← hgl] at hmk16 hown16
  have hp16 := hp15.trans (hb16.mono hp15.size)
  rw [← nulTo_0 N] at hown16
  have hgl1 : w1.heap.size ≤ gl := by rw [hgl]; exact hp15.size
  have HN := Lib.hid hN
  have HO16 := Lib.hid hown16
  clear hmk0 hb16 hgl hp15 hN hown16
  go_wp2_with fail
  go_loopw [28] (fun v28 wr => ∃ k : Nat, k ≤ N ∧ v28 = .int .i64 k ∧ OwnVV wr gl (.slice (some ⟨gl, 0, none⟩) N N) (nulTo N k) ∧ Below w1.heap.size w1 wr) (fun v28 _ => N - (intOf v28).toNat)
  case atStart => exact ⟨0, Nat.zero_le _, rfl, HO16.out, hp16⟩
  case round =>
    obtain ⟨k, hk, rfl, hown, hbel⟩ := hrel
    by_cases hlt : k < N
    case pos =>
      obtain ⟨u, sc0, sf0, _, _, _⟩ := hown.at (nulTo_at hlt)
      have hglw : gl < wr.heap.size := cell_lt sc0
      have hkI : (k : Int) < (N : Int) := by omega
      have hkI0 : (0 : Int) ≤ (k : Int) := by omega
      have hN1 := HN.out
      have HO := Lib.hid hown
      have hl := World.ownsRow_lit (base := gl) (e := 46) (size := 3) wr #[.int .u8 0, .int .i64 0, .string ⟨#[]⟩] 1 (by omega) (by unfold maxLen; omega) rfl
      obtain ⟨⟨x1, x2⟩, hU⟩ := OwnN.upd (s := u) (s' := (some ⟨wr.heap.size, 0, none⟩, 1, 1)) (b' := [null]) (by decide) HO.out (nulTo_at hlt) sc0 rfl hl (Below.refl _ wr) (World.grownBy_alloc wr _ _) (.inr rfl)
      rw [nulTo_set hlt] at hU
      have hz := hbel.size
      have HU := Lib.hid (And.intro hU ((hbel.alloc hz (.cells #[.int .u8 0, .int .i64 0, .string ⟨#[]⟩] 46)).setCell (p := ⟨gl, k, none⟩) hgl1 (sl3 (some ⟨wr.heap.size, 0, none⟩, 1, 1))))
      have hk1 : k + 1 ≤ N := hlt
      have hmea : N - (k + 1) < N - k := by omega
      have HW := Lib.hid (show wrap64 ((k : Int) + 1) = ((k + 1 : Nat) : Int) by unfold wrap64; omega)
      clear hU hown sc0 sf0 hl hN1
      go_wp2_with fail
      have hF := HU.out
      simp only [World.setCell_alloc_past _ _ _ _ hglw] at hF
      rw [HW.out]
      exact ⟨⟨k + 1, hk1, rfl, hF.1, hF.2⟩, hmea⟩
    case neg =>
      have hkN : k = N := by omega
      subst hkN
      have hge : (k : Int) ≤ (k : Int) := Int.le_refl _
      rw [nulTo_end] at hown
      have HRD := Lib.hid (fun (w' : World) (hb : Below wr.heap.size wr w') => hown.rd.next hb)
      have K17 := Lib.hid (make2 [2] (List.replicate k [null]) ([], 2) (some ⟨W.heap.size, 0, none⟩) (some ⟨gl, 0, none⟩) 1 k 1 k 0 2 wr rfl (by rw [List.length_replicate]) (kn_n_of k (by have := HN.out; omega)) rfl rfl (HT.out wr hbel) (HRD.out wr (Below.refl _ _)) (by simp) (by rw [List.length_replicate]; have := HN.out; omega) (nul_vsm k) (by rw [List.length_replicate]; have := HN.out; omega))
      clear hown hlt hge
      have hgeI : ¬ ((k : Int) < (k : Int)) := by omega
      go_wp2_with fail
      refine K17.out.mono ?_; rintro e w17 ⟨A17, c17, rfl, _, hb17⟩
      have hp17 := hbel.trans (hb17.mono hbel.size)
      obtain ⟨M, hM⟩ : ∃ M : Nat, M = 65536 := ⟨_, rfl⟩
      have hkM : k - 1 = M := by have := HN.out; omega
      have hsl := run_from_vs (some ⟨gl, 0, none⟩) k k 1 (by have := HN.out; omega) w17
      rw [if_neg (by have := HN.out; omega), hkM] at hsl
      have hsl1 : (Instr.sliceAt 23 (.slice (some ⟨gl, 0, none⟩) k k) (some (.int .i64 1)) none none).run Try.prog w17 = .ok (.slice (some ⟨gl, 1, none⟩) M M) w17 := hsl
      have r18 : RdVV w17 w17.heap.size (some ⟨gl, 1, none⟩) (List.replicate M [null]) := by
        have h := (HRD.out w17 hb17).drop1
        rw [List.drop_replicate, hkM] at h
        exact h
      obtain ⟨q, hq1, hq9, hq2, hq3, hq4, hq5⟩ := kn_o_of M hM
      have K18 := Lib.hid (make2 [2] (List.replicate M [null]) (q, 0) (some ⟨W.heap.size, 0, none⟩) (some ⟨gl, 1, none⟩) 1 M 1 M 9 0 w17 rfl (by rw [List.length_replicate]) hq1 hq9 rfl (HT.out w17 hp17) r18 (by simp) (by rw [List.length_replicate]; omega) (nul_vsm M) (fun _ => by rw [List.length_replicate]; exact hq5))
      have HQ1 := Lib.hid (And.intro hq9 (And.intro hq2 (And.intro hq3 hq4)))
      clear K17 hsl r18 hq1 hq2 hq3 hq4 hq5 hM hkM hq9
      go_wp2_with fail
      refine K18.out.mono ?_; rintro e w18 ⟨A18, c18, rfl, rd18, hb18⟩
      have hp18 := hp17.trans (hb18.mono hp17.size)
      have K19 := sgbounds_any (some ⟨W.heap.size, 0, none⟩) A18 1 c18 [2] q w18 (HT.out w18 hp18) rd18 (by simp) (by rw [HQ1.out.1]; omega) HQ1.out.2.2.1 HQ1.out.2.2.2
      rw [HQ1.out.1, HQ1.out.2.1] at K19
      have HK19 := Lib.hid K19
      clear K19 K18 rd18 hb18 hp17 hb17 hsl1 HRD HQ1 hbel
      go_wp2_with fail
      refine HK19.out.mono ?_; rintro e w19 ⟨A19, c19, B19, d19, rfl, rl, rh, hb19⟩
      have hp19 := hp18.trans (hb19.mono hp18.size)
      obtain ⟨ga, oa, hA, hga, p0, p1, p2⟩ := rd_val rl (i := 0) (v := null) rfl
      obtain ⟨gb2, ob, hB, hgb2, s0, s1, s2⟩ := rd_val rh (i := 0) (v := null) rfl
      subst hA hB
      have HBE := Lib.hid (HB1.out.trans (hp19.mono HB1.out.size))
      have p0' : w19.cell? ⟨ga, oa, none⟩ = some (.int .u8 0) := p0
      have p1' : w19.cell? ⟨ga, oa + 1, none⟩ = some (.int .i64 0) := p1
      have p2' : w19.cell? ⟨ga, oa + 2, none⟩ = some (.string ⟨#[]⟩) := p2
      have s0' : w19.cell? ⟨gb2, ob, none⟩ = some (.int .u8 0) := s0
      have s1' : w19.cell? ⟨gb2, ob + 1, none⟩ = some (.int .i64 0) := s1
      have s2' : w19.cell? ⟨gb2, ob + 2, none⟩ = some (.string ⟨#[]⟩) := s2
      clear HK19 rl rh hb19 hp18 hp19 p0 p1 p2 s0 s1 s2 hmk16 HT HQ HR HP HO16 hp16 HN
      go_wp2_with fail
      refine (makes_any w19).mono ?_; rintro e w20 ⟨rfl, hb20⟩
      have HBF := Lib.hid (HBE.out.trans (hb20.mono HBE.out.size))
      clear hb20
      go_wp2_with fail
      go_ret
      exact ⟨rfl, HBF.out⟩
end Go.Proofs.Ythkpgjcnnfdibaa

/- Joined texts: see the remark ahead of each part. No condition but those that the parts name. -/
import Derived.Test.YthkpgjcnnfdibaaSgg
import Derived.Test.YthkpgjcnnfdibaaSgf
/-! The walk of the law's makes (layer 7): the chapter's example is made, and opened. No condition. -/
namespace Go.Proofs.Ythkpgjcnnfdibaa
open Go.RowKit Go.Maps
set_option linter.unusedVariables false
set_option linter.unusedSimpArgs false

def exP : List UInt8 := [2, 2, 0, 20, 2, 0, 40, 5, 0, 1, 20, 1, 0]
def exR : List (List V) := [[⟨2, 10, []⟩], [⟨2, 20, []⟩]]
theorem ex_make : segMake [2] exR = ([exP], 0) := by decide +kernel
theorem ex_seg : (sopen [2] [exP]).cols = [[⟨2, 10, []⟩, ⟨2, 20, []⟩]] ∧ (sopen [2] [exP]).n = 2 ∧ (sopen [2] [exP]).lo = [⟨2, 10, []⟩] ∧ (sopen [2] [exP]).hi = [⟨2, 20, []⟩] ∧ (sopen [2] [exP]).e = 0 := by decide +kernel
theorem ex_open : rowsE (sopen [2] [exP]) = (exR, 0) := by
  obtain ⟨h1, h2, _, _, h5⟩ := ex_seg
  unfold rowsE
  rw [h1, h2, h5]
  decide +kernel
theorem ex_n : (vget ([exP].flatten)).1 ≤ 65536 → ((vget ([exP].flatten)).1 + 1) * ([exP].flatten.length + 10) ≤ 4000000000 := by decide +kernel
theorem ex_size : (segBytes [2] 2 (colsOf 1 exR)).length ≤ 3900000000 := by decide +kernel
theorem vsm_ex : ∀ r ∈ exR, r.length ≤ 1000000 ∧ (∀ v ∈ r, vsm v) ∧ (rbytes r).length ≤ 4294967296 := by
  intro r hr
  simp [exR] at hr
  rcases hr with rfl | rfl
  · exact ⟨by simp, fun v hv => by simp at hv; subst hv; exact ⟨by decide, by unfold i64r; decide, by decide⟩, by decide +kernel⟩
  · exact ⟨by simp, fun v hv => by simp at hv; subst hv; exact ⟨by decide, by unfold i64r; decide, by decide⟩, by decide +kernel⟩
/-- the example's arguments, as the walk lays them -/
def exW (w : World) : World :=
  ((((w.alloc (Obj.cells #[Value.int IntKind.u8 2] 5)).alloc (Obj.cells #[Value.int IntKind.u8 2, Value.int IntKind.i64 10, Value.string { data := #[] }] 46)).alloc
    (Obj.cells #[Value.int IntKind.u8 2, Value.int IntKind.i64 20, Value.string { data := #[] }] 46)).alloc
    (Obj.cells #[Value.slice (some ⟨w.heap.size + 1, 0, none⟩) 1 1, Value.slice (some ⟨w.heap.size + 1 + 1, 0, none⟩) 1 1] 37))
theorem exW_size (w : World) : (exW w).heap.size = w.heap.size + 4 := by unfold exW; simp
theorem ex_lay (w : World) : Rd (exW w) (exW w).heap.size (some ⟨w.heap.size, 0, none⟩) (cells [2]) ∧ RdVV (exW w) (exW w).heap.size (some ⟨w.heap.size + 1 + 1 + 1, 0, none⟩) exR ∧ Below w.heap.size w (exW w) := by
  rw [exW_size]
  refine ⟨?_, ⟨[(some ⟨w.heap.size + 1, 0, none⟩, 1, 1), (some ⟨w.heap.size + 1 + 1, 0, none⟩, 1, 1)], rfl, ?_, fun i s b hs hb => ?_⟩, ?_⟩
  · unfold exW
    have h := rd_arr w (cells [2]) 5 w.heap.size (w.heap.size + 1) rfl (by omega)
    exact (((h.alloc (by simp) _).alloc (by simp) _).alloc (by simp) _).more (by omega)
  · unfold exW
    exact rd_arr _ [Value.slice (some ⟨w.heap.size + 1, 0, none⟩) 1 1, Value.slice (some ⟨w.heap.size + 1 + 1, 0, none⟩) 1 1] 37 (w.heap.size + 1 + 1 + 1) (w.heap.size + 4) (by simp) (by omega)
  · match i, hs, hb with
    | 0, hs, hb =>
      simp [exR] at hs hb
      subst hs hb
      refine ⟨rfl, by simp, ?_⟩
      unfold exW
      have h := rd_arr (w.alloc (Obj.cells #[Value.int IntKind.u8 2] 5)) (vcells [⟨2, 10, []⟩]) 46 (w.heap.size + 1) (w.heap.size + 2) (by simp) (by omega)
      exact ((h.alloc (by simp) _).alloc (by simp) _).more (by omega)
    | 1, hs, hb =>
      simp [exR] at hs hb
      subst hs hb
      refine ⟨rfl, by simp, ?_⟩
      unfold exW
      have h := rd_arr ((w.alloc (Obj.cells #[Value.int IntKind.u8 2] 5)).alloc (Obj.cells #[Value.int IntKind.u8 2, Value.int IntKind.i64 10, Value.string { data := #[] }] 46)) (vcells [⟨2, 20, []⟩]) 46 (w.heap.size + 1 + 1) (w.heap.size + 3) (by simp) (by omega)
      exact (h.alloc (by simp) _).more (by omega)
    | i + 2, hs, hb => simp at hs
  · unfold exW
    exact (((((Below.refl _ w).alloc (Nat.le_refl _) _).alloc (by simp) _).alloc (by simp; omega) _).alloc (by simp; omega) _)
set_option maxRecDepth 100000 in
theorem makes_any (w : World) : Calls Try.prog 15 #[] w fun e w' => e = .returned (.bool true) ∧ Below w.heap.size w w' := by
  obtain ⟨hT, hR, hb0⟩ := ex_lay w
  have KM := smake_any (exW w).heap.size (some ⟨w.heap.size, 0, none⟩) (some ⟨w.heap.size + 1 + 1 + 1, 0, none⟩) 1 2 [2] exR (exW w) hT hR (Nat.le_refl _) (by simp) (by simp [exR]) vsm_ex (fun _ _ _ => ex_size)
  rw [ex_make] at KM
  have HM := Lib.hid KM
  have HT := Lib.hid hT
  have HB := Lib.hid hb0
  clear KM hT hR hb0
  go_enter Try.func15, Try.ntmps15
  go_wp2_with fail
  refine HM.out.mono ?_; rintro e w1 ⟨A1, c1, rfl, own1, hb1⟩
  have HB1 := Lib.hid (HB.out.trans (hb1.mono HB.out.size))
  have T1 := HT.out.next hb1
  have rd1 := own1.rd
  have KO : Calls Try.prog 18 #[.slice (some ⟨w.heap.size, 0, none⟩) 1 1, .slice A1 1 c1] w1 (RetVVE w1 (exR, 0)) := by
    have h := sgopen_any (some ⟨w.heap.size, 0, none⟩) A1 1 c1 [2] [exP] w1 T1 rd1 (by simp) (by simp) (by decide) ex_n
    rw [ex_open] at h
    exact h
  have HO := Lib.hid KO
  obtain ⟨g, o, a, cc, hA, hg, q0, hcc, hra⟩ := rdN_at rd1 (i := 0) (b := exP) rfl
  subst hA
  rw [Nat.add_zero] at q0
  have q1 : w1.cell? ⟨g, o, none⟩ = some (.slice a 13 cc) := q0
  have HT1 := Lib.hid T1
  have HR1 := Lib.hid rd1
  have hcv : (convert 22 9 (.slice a 13 cc)).run Try.prog w1 = .ok (.string ⟨#[2, 2, 0, 20, 2, 0, 40, 5, 0, 1, 20, 1, 0]⟩) w1 := conv_rd hra cc
  clear KO own1 T1 rd1 hb1 hra HM q0 hcc
  go_wp2_with fail
  refine HO.out.mono ?_; rintro e w2 ⟨A2, c2, rfl, own2, hb2⟩
  have HB2 := Lib.hid (HB1.out.trans (hb2.mono HB1.out.size))
  have KB : Calls Try.prog 20 #[.slice (some ⟨w.heap.size, 0, none⟩) 1 1, .slice (some ⟨g, o, none⟩) 1 c1] w2 (RetBnd w2 (sopen [2] [exP])) :=
    sgbounds_any (some ⟨w.heap.size, 0, none⟩) (some ⟨g, o, none⟩) 1 c1 [2] [exP] w2 (HT1.out.next hb2) (HR1.out.next hb2) (by simp) (by simp) (by decide) ex_n
  have HK := Lib.hid KB
  have HW2 := Lib.hid own2
  clear KB own2 hb2 HO q1 hcv
  go_wp2_with fail
  refine HK.out.mono ?_; rintro e w3 ⟨A3, c3, A4, c4, rfl, r3, r4, hb3⟩
  obtain ⟨_, _, e3, e4, e5⟩ := ex_seg
  rw [e3] at r3
  rw [e4] at r4
  rw [e3, e4, e5]
  have rd2 := (HW2.out.rd).next hb3
  obtain ⟨g2, o2, a2, cc2, hA2, hg2, q2, _, hr2⟩ := rdN_at rd2 (i := 1) (b := [⟨2, 20, []⟩]) rfl
  subst hA2
  obtain ⟨g5, o5, hA5, hg5, s0, s1, s2⟩ := rd_val hr2 (i := 0) (v := ⟨2, 20, []⟩) rfl
  subst hA5
  obtain ⟨g6, o6, hA6, hg6, t0, t1, t2⟩ := rd_val r3 (i := 0) (v := ⟨2, 10, []⟩) rfl
  subst hA6
  obtain ⟨g7, o7, hA7, hg7, u0, u1, u2⟩ := rd_val r4 (i := 0) (v := ⟨2, 20, []⟩) rfl
  subst hA7
  have HF := Lib.hid (HB2.out.trans (hb3.mono HB2.out.size))
  have q2' : w3.cell? ⟨g2, o2 + 1, none⟩ = some (.slice (some ⟨g5, o5, none⟩) 1 cc2) := q2
  simp only [Nat.zero_mul, Nat.add_zero] at s1 t1 u1
  clear q2 e3 e4 e5 HK HW2 rd2 hr2 r3 r4 hb3 s0 s2 t0 t2 u0 u2
  go_wp2_with fail
  go_ret
  exact ⟨rfl, HF.out⟩
end Go.Proofs.Ythkpgjcnnfdibaa

/-! What the laws of layer 7 share: how much bytes are. No condition but those named. -/
namespace Go.Proofs.Ythkpgjcnnfdibaa
open Go.RowKit Go.Maps
set_option linter.unusedVariables false
set_option linter.unusedSimpArgs false

theorem words_len2 {l : List V} {M : Nat} (h : ∀ v ∈ l, v.t.length ≤ M) (hM : M ≤ 1000000) (hl : l.length ≤ 65536) : ((words l).flatMap wbytes).length ≤ l.length * (M + 10) := by
  have h1 : ∀ t ∈ words l, t.length ≤ M := fun t ht => by
    obtain ⟨v, hv, rfl⟩ := words_of ht
    exact h v hv
  have h2 := flat_bound h1 (by omega)
  exact Nat.le_trans h2 (Nat.mul_le_mul_right _ (words_le l))
theorem flatm_le {α : Type} (f : α → List UInt8) (K : Nat) : ∀ (l : List α), (∀ x ∈ l, (f x).length ≤ K) → (l.flatMap f).length ≤ l.length * K
  | [], _ => by simp
  | x :: l, h => by
    have h1 := h x (List.mem_cons_self ..)
    have h2 := flatm_le f K l (fun y hy => h y (List.mem_cons_of_mem _ hy))
    rw [List.flatMap_cons, List.length_append, List.length_cons, Nat.succ_mul]; omega
theorem cbody_len2 {t : UInt8} {l : List V} {M : Nat} (h : ∀ v ∈ l, v.t.length ≤ M) (hM : M ≤ 60000) (hl : l.length ≤ 65536) : (cbody t l).length ≤ l.length * (M + 10) + 20 * (l.length + 1) + 10 := by
  unfold cbody
  split
  · rw [bitsN_len]; unfold size8; omega
  split
  · have := In.iput_length (l.map V.n) (by rw [List.length_map]; omega)
    rw [List.length_map] at this; omega
  · have h1 := words_len2 h (by omega) hl
    have h2 := flatm_le (fun v : V => whichB (words l) v.t) 10 l (fun v hv => by
      unfold whichB
      exact vput_length64 (by have h3 := List.idxOf_le_length (a := v.t) (l := words l); have h4 := words_le l; omega))
    have h3 := vput_length64 (show (words l).length < 18446744073709551616 by have := words_le l; omega)
    unfold tput
    rw [List.length_append, List.length_append]
    omega
theorem cput_len2 {t : UInt8} {l : List V} {M : Nat} (h : ∀ v ∈ l, v.t.length ≤ M) (hM : M ≤ 60000) (hl : l.length ≤ 65536) : (cput t l).1.length ≤ l.length * (M + 10) + 21 * (l.length + 1) + 11 := by
  unfold cput
  split
  · have h1 := cbody_len2 (t := t) (l := marks l) (fun v hv => h v (mem_marks.1 hv).1) hM (by have := marks_len l; omega)
    have h2 := marks_len l
    have h3 : (marks l).length * (M + 10) ≤ l.length * (M + 10) := Nat.mul_le_mul_right _ h2
    dsimp only
    rw [List.length_append, bitsN_len]
    unfold size8
    omega
  · simp
theorem part1_len {p : List UInt8} (h : p.length < 18446744073709551616) : (part1 p).length ≤ p.length + 10 := by
  unfold part1
  have := vput_length64 h
  rw [List.length_append]; omega
theorem bnds_len {l : List V} {M : Nat} (h : ∀ v ∈ l, v.t.length ≤ M) : (bnds l).1.t.length ≤ M ∧ (bnds l).2.t.length ≤ M := by
  obtain ⟨h1, h2⟩ := bnds_in l
  constructor
  · rcases h1 with h1 | h1
    · rw [h1]; simp [null]
    · exact h _ h1
  · rcases h2 with h2 | h2
    · rw [h2]; simp [null]
    · exact h _ h2
theorem seg_size {T : List UInt8} {n : Nat} {cs : List (List V)} (hk : knownT T = true) (hT : T.length ≤ 12) (hn : n ≤ 200) (hc : ColsOk T n cs) (ht : ∀ l ∈ cs, ∀ v ∈ l, v.t.length ≤ 200) : (segBytes T n cs).length ≤ 600000 := by
  obtain ⟨_, ⟨s1, s2⟩, p1, p2, _, _⟩ := ColsOk.low hk hc
  have hcl := hc.1
  have r1 := rbytes_le 200 (least cs) (fun v hv => ⟨(s1 v hv).2.1, by obtain ⟨l, hl, rfl⟩ := List.mem_map.1 hv; exact (bnds_len (ht l hl)).1⟩) (by omega)
  have r2 := rbytes_le 200 (greatest cs) (fun v hv => ⟨(s2 v hv).2.1, by obtain ⟨l, hl, rfl⟩ := List.mem_map.1 hv; exact (bnds_len (ht l hl)).2⟩) (by omega)
  rw [least_length] at r1
  rw [greatest_length] at r2
  have hz : (T.zip cs).length ≤ 12 := by rw [List.length_zip]; omega
  have hf := flatm_le cpart 48300 (T.zip cs) (fun x hx => by
    have hm := (List.of_mem_zip hx).2
    obtain ⟨hl, _⟩ := hc.mem hm
    have h1 := cput_len2 (t := x.1) (ht _ hm) (by omega) (by omega)
    have h2 : (x.2).length * (200 + 10) ≤ 200 * 210 := Nat.mul_le_mul (by omega) (by omega)
    have h3 := part1_len (p := (cput x.1 x.2).1) (by omega)
    show (part1 (cput x.1 x.2).1).length ≤ 48300
    omega)
  have hf2 : (T.zip cs).length * 48300 ≤ 12 * 48300 := Nat.mul_le_mul hz (by omega)
  unfold segBytes segHead
  rw [p1, p2]
  dsimp only
  have q1 := part1_len (p := rbytes (least cs)) (by omega)
  have q2 := part1_len (p := rbytes (greatest cs)) (by omega)
  have q3 := vput_length64 (show n < 18446744073709551616 by omega)
  simp only [List.length_append]
  omega
theorem rsame_self (B : Nat) (A A' : Option Addr) (c c' : Nat) (l : List (List V)) (w : World) (hl : RdVV w B A l) (hm : RdVV w B A' l) (hB : B ≤ w.heap.size) (hll : l.length ≤ 1000000000) (hlr : ∀ r ∈ l, r.length ≤ maxLen) :
    Calls Try.prog 14 #[.slice A l.length c, .slice A' l.length c'] w fun e w' => e = .returned (.bool true) ∧ Below w.heap.size w w' :=
  (rsame_any B A A' c c' l l w hl hm hB hll hlr).mono (by rintro e w' ⟨rfl, h⟩; exact ⟨by simp, h⟩)
theorem rpieces_self (B : Nat) (A A' : Option Addr) (c c' : Nat) (l : List (List UInt8)) (w : World) (hl : RdBB w B A l) (hm : RdBB w B A' l) (hB : B ≤ w.heap.size) (hll : l.length ≤ 1000000000) :
    Calls Try.prog 13 #[.slice A l.length c, .slice A' l.length c'] w fun e w' => e = .returned (.bool true) ∧ Below w.heap.size w w' :=
  (rpieces_any B A A' c c' l l w hl hm hB hll).mono (by rintro e w' ⟨rfl, h⟩; exact ⟨by simp, h⟩)
/-- what a statement looks at is of a size -/
structure Fits (T : List UInt8) (rows : List (List V)) : Prop where
  t : T.length ≤ 12
  n : rows.length ≤ 200
  ok : ∀ r ∈ rows, r.length ≤ 12 ∧ ∀ v ∈ r, vsm v ∧ v.t.length ≤ 200
theorem fits_of {T : List UInt8} {rows : List (List V)} (h : lng7 T rows = false) (hv : ∀ r ∈ rows, r.length ≤ maxLen ∧ ∀ v ∈ r, vok v) : Fits T rows := by
  obtain ⟨h1, h2, h3⟩ := lng7_no h
  refine ⟨h1, h2, fun r hr => ⟨(h3 r hr).1, fun v hv2 => ?_⟩⟩
  obtain ⟨a, b, _⟩ := (hv r hr).2 v hv2
  have := (h3 r hr).2 v hv2
  exact ⟨⟨a, b, by omega⟩, this⟩
theorem Fits.cols {T : List UInt8} {rows : List (List V)} (h : Fits T rows) (hk : knownT T = true) (hro : rowsOk T rows = true) : ColsOk T rows.length (colsOf T.length rows) :=
  colsOk_of hk hro (by have := h.n; omega) (fun r hr v hv => ((h.ok r hr).2 v hv).1)
theorem Fits.size {T : List UInt8} {rows : List (List V)} (h : Fits T rows) (hk : knownT T = true) (hro : rowsOk T rows = true) : (segBytes T rows.length (colsOf T.length rows)).length ≤ 600000 :=
  seg_size hk h.t h.n (h.cols hk hro) (fun l hl v hv => by
    obtain ⟨i, _, rfl⟩ := colsOf_mem hl
    rcases colAt_mem hv with rfl | ⟨r, hr, hv⟩
    · simp [null]
    · exact ((h.ok r hr).2 v hv).2)
theorem Fits.make {T : List UInt8} {rows : List (List V)} (h : Fits T rows) : (segMake T rows).1.length ≤ 1000 := by
  unfold segMake
  split
  · simp
  split
  · simp
  split
  · simp
  · rename_i h1 h2 h3
    have := h.size (by simpa using h1) (by simpa using h2)
    dsimp only
    rw [chunk_length]
    unfold many
    omega
theorem Fits.rowb {T : List UInt8} {rows : List (List V)} (h : Fits T rows) : ∀ r ∈ rows, r.length ≤ 1000000 ∧ (∀ v ∈ r, vsm v) ∧ (rbytes r).length ≤ 4294967296 := fun r hr => by
  obtain ⟨a, b⟩ := h.ok r hr
  have h2 := rbytes_le 200 r (fun v hv => ⟨(b v hv).1.2.1, (b v hv).2⟩) (by omega)
  have h3 : r.length * (10 + 200) ≤ 12 * 210 := Nat.mul_le_mul a (by omega)
  exact ⟨by omega, fun v hv => (b v hv).1, by omega⟩
theorem same_self (B : Nat) (A A' : Option Addr) (c c' : Nat) (l : List V) (w : World) (hl : Rd w B A (vcells l)) (hm : Rd w B A' (vcells l)) (hB : B ≤ w.heap.size) (hll : l.length ≤ maxLen) :
    Calls Try.prog 23 #[.slice A l.length c, .slice A' l.length c'] w fun e w' => e = .returned (.bool true) ∧ Below w.heap.size w w' :=
  (Same_any B A A' c c' l l w hl hm hB hll).mono (by rintro e w' ⟨rfl, h⟩; exact ⟨by simp, h⟩)
theorem flat_len (K : Nat) : ∀ ps : List (List UInt8), (∀ p ∈ ps, p.length ≤ K) → ps.flatten.length ≤ ps.length * K
  | [], _ => by simp
  | p :: ps, h => by
    have h1 := h p (List.mem_cons_self ..)
    have h2 := flat_len K ps (fun q hq => h q (List.mem_cons_of_mem _ hq))
    rw [List.flatten_cons, List.length_append, List.length_cons, Nat.succ_mul]; omega
/-- few pieces -/
theorem few_size {T : List UInt8} {ps : List (List UInt8)} (h : hvy7 T ps = false) : T.length ≤ 12 ∧ ps.length ≤ 8 ∧ ps.flatten.length ≤ 8800 ∧ ((vget ps.flatten).1 ≤ 65536 → ((vget ps.flatten).1 + 1) * (ps.flatten.length + 10) ≤ 4000000000) := by
  obtain ⟨h1, h2, h3⟩ := hvy7_no h
  have h4 := flat_len 1100 ps h3
  have h5 : ps.length * 1100 ≤ 8 * 1100 := Nat.mul_le_mul_right _ h2
  have h9 : ps.flatten.length ≤ 8800 := by omega
  refine ⟨h1, h2, h9, fun h6 => ?_⟩
  have h7 : (vget ps.flatten).1 + 1 ≤ 65537 := by omega
  have h8 : ps.flatten.length + 10 ≤ 8810 := by omega
  exact Nat.le_trans (Nat.mul_le_mul h7 h8) (by decide)
end Go.Proofs.Ythkpgjcnnfdibaa

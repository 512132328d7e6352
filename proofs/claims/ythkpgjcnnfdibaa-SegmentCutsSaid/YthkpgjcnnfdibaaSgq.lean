/- Joined texts: see the remark ahead of each part. No condition but those that the parts name. -/
import Derived.Test.YthkpgjcnnfdibaaSgm
/-! SegmentCuts (layer 7): plain laws, and slices of slices that are cut and lengthened. No condition. -/
namespace Go.Proofs.Ythkpgjcnnfdibaa
open Go.RowKit Go.Maps
set_option linter.unusedVariables false
set_option linter.unusedSimpArgs false

theorem byte_of {a : Int} (h : 0 ≤ a ∧ a < 256) : ∃ t : UInt8, a = (t.toNat : Int) := by
  refine ⟨a.toNat.toUInt8, ?_⟩
  rw [toNat_toUInt8 (by omega)]
  omega
/-! ### what is no segment -/
theorem sread_pre {T b x : List UInt8} (hT : knownT T = true) (hb : b.length ≤ 1000000) (h : (sread T (b ++ x)).e = 0) (hx : x ≠ []) : (sread T b).e ≠ 0 := by
  intro h0
  obtain ⟨cs, n, hn, hc, hbe, _⟩ := sread_inv hT hb h0
  have h1 := sread_put x hT hn hc (by rw [← hbe]; omega)
  rw [← hbe, if_neg hx] at h1
  rw [h1] at h
  cases h
theorem sread_ext {T b x : List UInt8} (hT : knownT T = true) (hb : b.length ≤ 1000000) (h : (sread T b).e = 0) (hx : x ≠ []) : (sread T (b ++ x)).e ≠ 0 := by
  obtain ⟨cs, n, hn, hc, hbe, _⟩ := sread_inv hT hb h
  have h1 := sread_put x hT hn hc (by rw [← hbe]; omega)
  rw [← hbe, if_neg hx] at h1
  rw [h1]
  decide
theorem sopen_ok {T : List UInt8} {ps : List (List UInt8)} (h : (sopen T ps).e = 0) : knownT T = true ∧ pcsOk ps = true ∧ (sread T ps.flatten).e = 0 := by
  unfold sopen at h
  by_cases h1 : knownT T = false
  · rw [if_pos h1] at h; cases h
  rw [if_neg h1] at h
  by_cases h2 : pcsOk ps = false
  · rw [if_pos h2] at h; cases h
  rw [if_neg h2] at h
  by_cases h3 : ps.length = 0
  · rw [if_pos h3] at h; cases h
  rw [if_neg h3] at h
  exact ⟨by simpa using h1, by simpa using h2, h⟩
theorem vget_first {n : Nat} {b x r : List UInt8} (hn : n < 18446744073709551616) (he : b ++ x = vput n ++ r) (hl : (vput n).length ≤ b.length) : (vget b).1 = n := by
  have h1 : b.take (vput n).length = vput n := by
    have h := congrArg (List.take (vput n).length) he
    rwa [List.take_append_of_le_length hl, List.take_left] at h
  rw [← List.take_append_drop (vput n).length b, h1, vget_vput hn]
/-- what Cuts hands in -/
structure CutsOk (T : List UInt8) (q : List (List UInt8)) (x : List UInt8) (cb : UInt8) : Prop where
  len : q.length ≤ 1000
  pos : 0 < q.length
  last : q[q.length - 1]? = some x
  xl : 1 ≤ x.length ∧ x.length ≤ 1000
  f : (sopen T (q.take (q.length - 1))).e ≠ 0
  g : (sopen T (q.set (q.length - 1) (x.take (x.length - 1)))).e ≠ 0
  h : (sopen T (q.set (q.length - 1) (x ++ [cb]))).e ≠ 0
  i : (sopen T (q ++ [[]])).e ≠ 0
  szf : (q.take (q.length - 1)).flatten.length ≤ 1000000 ∧ ((vget (q.take (q.length - 1)).flatten).1 ≤ 65536 → ((vget (q.take (q.length - 1)).flatten).1 + 1) * ((q.take (q.length - 1)).flatten.length + 10) ≤ 4000000000)
  szg : (q.set (q.length - 1) (x.take (x.length - 1))).flatten.length ≤ 1000000 ∧ ((vget (q.set (q.length - 1) (x.take (x.length - 1))).flatten).1 ≤ 65536 → ((vget (q.set (q.length - 1) (x.take (x.length - 1))).flatten).1 + 1) * ((q.set (q.length - 1) (x.take (x.length - 1))).flatten.length + 10) ≤ 4000000000)
  szh : (q.set (q.length - 1) (x ++ [cb])).flatten.length ≤ 1000000 ∧ ((vget (q.set (q.length - 1) (x ++ [cb])).flatten).1 ≤ 65536 → ((vget (q.set (q.length - 1) (x ++ [cb])).flatten).1 + 1) * ((q.set (q.length - 1) (x ++ [cb])).flatten.length + 10) ≤ 4000000000)
  szi : (q ++ [[]]).flatten.length ≤ 1000000 ∧ ((vget (q ++ [[]]).flatten).1 ≤ 65536 → ((vget (q ++ [[]]).flatten).1 + 1) * ((q ++ [[]]).flatten.length + 10) ≤ 4000000000)
theorem few_ok {b : List UInt8} {n : Nat} (hn : n ≤ 200) (hb : b.length ≤ 600010) (h : (vget b).1 = n) : (vget b).1 ≤ 65536 → ((vget b).1 + 1) * (b.length + 10) ≤ 4000000000 := by
  intro _
  rw [h]
  have h7 : n + 1 ≤ 201 := by omega
  have h8 : b.length + 10 ≤ 600020 := by omega
  exact Nat.le_trans (Nat.mul_le_mul h7 h8) (by decide)
theorem cuts_ok {T : List UInt8} {rows : List (List V)} (hF : Fits T rows) (hk : knownT T = true) (hro : rowsOk T rows = true) (cb : UInt8) : ∃ q x, segMake T rows = (q, 0) ∧ CutsOk T q x cb := by
  obtain ⟨q, e1, e2, e3, e4, e5, e6, e7, e8⟩ := back_make hF hk hro
  have hs := hF.size hk hro
  have hn := hF.n
  have hc := hF.cols hk hro
  have hfl : q.flatten = segBytes T rows.length (colsOf T.length rows) := by rw [e8, chunk_flat]
  have hro2 := sread_put [] hk (by omega) hc (by omega)
  rw [List.append_nil, if_pos rfl, ← hfl] at hro2
  have hok : (sread T q.flatten).e = 0 := by rw [hro2]
  have hB : ∃ r, q.flatten = vput rows.length ++ r ∧ 2 ≤ r.length := by
    rw [hfl]
    unfold segBytes segHead
    rw [List.append_assoc, List.append_assoc]
    refine ⟨_, rfl, ?_⟩
    have h1 : ∀ p : List UInt8, 1 ≤ (part1 p).length := fun p => by unfold part1; rw [List.length_append]; have := vput_pos p.length; omega
    have h2 := h1 (rput T (least (colsOf T.length rows))).1
    have h3 := h1 (rput T (greatest (colsOf T.length rows))).1
    rw [List.length_append, List.length_append]
    omega
  obtain ⟨r, hBr, hr2⟩ := hB
  have hvl := vput_length64 (show rows.length < 18446744073709551616 by omega)
  have hpos : 0 < q.length := by omega
  obtain ⟨x, hx⟩ : ∃ x, q[q.length - 1]? = some x := ⟨_, List.getElem?_eq_getElem (by omega)⟩
  have hpx := (pcsOk_iff.1 e2 _ x hx).2
  have hq : q = q.take (q.length - 1) ++ [x] := by
    have h := List.take_add_one (l := q) (i := q.length - 1)
    rw [hx, show q.length - 1 + 1 = q.length by omega, List.take_length] at h
    exact h
  obtain ⟨p, hp⟩ : ∃ p, p = q.take (q.length - 1) := ⟨_, rfl⟩
  have hpl : p.length = q.length - 1 := by rw [hp, List.length_take]; omega
  have hset : ∀ y, q.set (q.length - 1) y = p ++ [y] := fun y => by
    rw [← hpl]
    conv => lhs; rw [hq, ← hp]
    rw [List.set_append_right _ _ (Nat.le_refl _), Nat.sub_self, List.set_cons_zero]
  rw [← hp] at hq
  have hfq : q.flatten = p.flatten ++ x := by rw [hq]; simp
  have hsz : q.flatten.length ≤ 600000 := by rw [hfl]; exact hs
  have hfl2 : q.flatten.length = p.flatten.length + x.length := by rw [hfq, List.length_append]
  have hfr : q.flatten.length = (vput rows.length).length + r.length := by rw [hBr, List.length_append]
  have hp1000 : ∀ y ∈ p, y.length = 1000 := fun y hy => by
    obtain ⟨i, hi⟩ := List.getElem?_of_mem hy
    have hil := (List.getElem?_eq_some_iff.1 hi).1
    rw [hp, List.getElem?_take, if_pos (by omega)] at hi
    exact (pcsOk_iff.1 e2 i y hi).1 (by omega)
  have hx0 : x ≠ [] := fun h => by rw [h] at hpx; simp at hpx
  obtain ⟨z, hz⟩ : ∃ z, x = x.take (x.length - 1) ++ [z] := by
    obtain ⟨z, hz⟩ : ∃ z, x[x.length - 1]? = some z := ⟨_, List.getElem?_eq_getElem (by omega)⟩
    refine ⟨z, ?_⟩
    have h := List.take_add_one (l := x) (i := x.length - 1)
    rw [hz, show x.length - 1 + 1 = x.length by omega, List.take_length] at h
    exact h
  refine ⟨q, x, e1, e4, hpos, hx, hpx, ?_, ?_, ?_, ?_, ?_, ?_, ?_, ?_⟩
  · rw [← hp]
    intro h
    have := (sopen_ok h).2.2
    exact sread_pre hk (by omega) (by rw [← hfq]; exact hok) hx0 this
  · rw [hset]
    intro h
    have h1 := (sopen_ok h).2.2
    rw [List.flatten_append] at h1
    simp only [List.flatten_cons, List.flatten_nil, List.append_nil] at h1
    refine sread_pre hk ?_ (x := [z]) (by rw [List.append_assoc, ← hz, ← hfq]; exact hok) (by simp) h1
    rw [List.length_append, List.length_take]; omega
  · rw [hset]
    intro h
    have h1 := (sopen_ok h).2.2
    rw [List.flatten_append] at h1
    simp only [List.flatten_cons, List.flatten_nil, List.append_nil] at h1
    rw [← List.append_assoc, ← hfq] at h1
    exact sread_ext hk (by omega) hok (by simp) h1
  · intro h
    have h1 := (sopen_ok h).2.1
    have h2 := (pcsOk_iff.1 h1 q.length [] (by simp)).2.1
    simp at h2
  · rw [← hp]
    refine ⟨by omega, ?_⟩
    by_cases h0 : p = []
    · rw [h0]
      intro _
      decide +kernel
    · have h1 : 1000 ≤ p.flatten.length := by
        obtain ⟨y, p', rfl⟩ := List.exists_cons_of_ne_nil h0
        rw [List.flatten_cons, List.length_append, hp1000 y (List.mem_cons_self ..)]; omega
      exact few_ok hn (by omega) (vget_first (x := x) (r := r) (by omega) (by rw [← hfq]; exact hBr) (by omega))
  · rw [hset, List.flatten_append]
    simp only [List.flatten_cons, List.flatten_nil, List.append_nil]
    have hl : (p.flatten ++ x.take (x.length - 1)).length = q.flatten.length - 1 := by rw [List.length_append, List.length_take]; omega
    exact ⟨by omega, few_ok hn (by omega) (vget_first (x := [z]) (r := r) (by omega) (by rw [List.append_assoc, ← hz, ← hfq]; exact hBr) (by omega))⟩
  · rw [hset, List.flatten_append]
    simp only [List.flatten_cons, List.flatten_nil, List.append_nil]
    rw [← List.append_assoc, ← hfq]
    have hl : (q.flatten ++ [cb]).length = q.flatten.length + 1 := by simp
    exact ⟨by omega, few_ok hn (by omega) (vget_first (x := []) (r := r ++ [cb]) (by omega) (by rw [List.append_nil, hBr, List.append_assoc]) (by omega))⟩
  · have hl : (q ++ [[]]).flatten = q.flatten := by simp
    rw [hl]
    exact ⟨by omega, few_ok hn (by omega) (vget_first (x := []) (r := r) (by omega) (by rw [List.append_nil]; exact hBr) (by omega))⟩
/-! ### slices of slices -/
section
variable {β : Type} {f : β → List Value} {n : β → Nat} {To Ti : TypeId} {sz : Nat}
theorem RdN.take {w : World} {B : Nat} {A : Option Addr} {bs : List β} (h : RdN f n w B A bs) (m : Nat) : RdN f n w B A (bs.take m) := by
  obtain ⟨ss, h1, h2, h3⟩ := h
  refine ⟨ss.take m, by rw [List.length_take, List.length_take, h1], by rw [List.map_take]; exact h2.take m, fun i s b hs hb => ?_⟩
  rw [List.getElem?_take] at hs hb
  split at hs
  · rename_i hi
    rw [if_pos hi] at hb
    exact h3 i s b hs hb
  · cases hs
/-- one slice stored into what is owned: read -/
theorem OwnN.rdset {w : World} {base m c g i : Nat} {bs : List β} {b' : β} {s' : Option Addr × Nat × Nat} (hTi : To ≠ Ti) (h : OwnN f n To Ti sz w base (.slice (some ⟨g, 0, none⟩) m c) bs) (hi : i < bs.length) (hs' : s'.2.1 = n b') (hle : n b' ≤ s'.2.2)
    (hrd : Rd (w.setCell ⟨g, i, none⟩ (sl3 s')) w.heap.size s'.1 (f b')) : RdN f n (w.setCell ⟨g, i, none⟩ (sl3 s')) w.heap.size (some ⟨g, 0, none⟩) (bs.set i b') := by
  obtain ⟨ss, h1, h2, h3, h4⟩ := h
  have hm : m = ss.length := by
    obtain ⟨A', c', e, _⟩ := own_form h2
    simp only [Value.slice.injEq] at e
    exact e.2.1
  subst hm
  have hlt : i < ss.length := by omega
  have h22 := (h2.stored i (sl3 s')).1
  have hsz : (w.setCell ⟨g, i, none⟩ (sl3 s')).heap.size = w.heap.size := by simp
  refine ⟨ss.set i s', by simp [h1], ?_, fun j u y hu hy => ?_⟩
  · rw [List.map_set]
    have := rd_own h22
    rw [hsz] at this
    exact this
  · rw [List.getElem?_set] at hu hy
    by_cases hij : i = j
    · subst hij
      rw [if_pos rfl, if_pos hlt] at hu
      rw [if_pos rfl, if_pos (by omega)] at hy
      simp at hu hy
      subst hu hy
      exact ⟨hs', hle, hrd⟩
    · rw [if_neg hij] at hu hy
      obtain ⟨a1, a2⟩ := h3 j u y hu hy
      have a3 := own_grown a2 (grown_set w g i (sl3 s')) (fun k hk e => Ap.ne (own_type a2 h2 (Ne.symm hTi)) k hk (by simpa [Value.ownBlock] using e))
      obtain ⟨u1, u2, u3⟩ := u
      dsimp only at a1 a3 ⊢
      subst a1
      have := rd_own a3
      rw [hsz] at this
      exact ⟨rfl, own_le a2, this⟩
end
theorem upto_bs {A : Option Addr} {n c : Nat} (m : Nat) (hm : m ≤ n) (hc : n ≤ c) (w' : World) (z : Int) (hz : z = m) :
    (Instr.sliceAt 26 (.slice A n c) none (some (.int .i64 z)) none).run Try.prog w' = .ok (.slice A m c) w' := by
  obtain ⟨i0, hi, hz0, hz1, hz2⟩ := info_parts Try.infoBs
  subst hz
  simp [Instr.sliceAt, Instr.slice, run_underlying Try.underlying26, Instr.sliceBounds, run_sliceBound, sizeOf, typeInfo, hi, hz1, (by omega : (0 : Int) ≤ (m : Int)), (by omega : (m : Int) ≤ (c : Int))]
  intro _
  cases A <;> simp [Addr.add]
end Go.Proofs.Ythkpgjcnnfdibaa

/-! The walk of SegmentCuts (layer 7). No condition. Printed by gen_sgl6.py. -/
namespace Go.Proofs.Ythkpgjcnnfdibaa
open Go.RowKit Go.Maps
set_option linter.unusedVariables false
set_option linter.unusedSimpArgs false

theorem OwnN.ptr {β : Type} {f : β → List Value} {n : β → Nat} {To Ti : TypeId} {sz : Nat} {w : World} {base m c : Nat} {A : Option Addr} {bs : List β} (h : OwnN f n To Ti sz w base (.slice A m c) bs) (hb : 0 < bs.length) : ∃ g, A = some ⟨g, 0, none⟩ ∧ base ≤ g ∧ g < w.heap.size := by
  obtain ⟨ss, h1, h2, _⟩ := h
  obtain ⟨g, cap, e, h3, h4⟩ := own_ptr h2 (by omega)
  simp only [Value.slice.injEq] at e
  exact ⟨g, e.1, h3, h4⟩
theorem flat_mem_le {q : List (List UInt8)} {p : List UInt8} (h : p ∈ q) : p.length ≤ q.flatten.length := (List.sublist_flatten_of_mem h).length_le
/-- Open of what is no segment -/
theorem open_no (A A' : Option Addr) (c c' k : Nat) (T : List UInt8) (ps : List (List UInt8)) (w : World) (hk : k = ps.length) (hT : Rd w w.heap.size A (cells T)) (hr : RdBB w w.heap.size A' ps) (hTl : T.length ≤ 12) (hl : ps.length ≤ 2000) (hz : ps.flatten.length ≤ 1000000 ∧ ((vget ps.flatten).1 ≤ 65536 → ((vget ps.flatten).1 + 1) * (ps.flatten.length + 10) ≤ 4000000000)) (he : (sopen T ps).e ≠ 0) :
    Calls Try.prog 18 #[.slice A T.length c, .slice A' k c'] w fun e w' => ∃ A1 n1 c1, ∃ x : Int, e = .returned (.tuple #[.slice A1 n1 c1, .int .i64 x]) ∧ (x != 0) = true ∧ Below w.heap.size w w' := by
  subst hk
  refine (sgopen_any A A' c c' T ps w hT hr (by omega) (by omega) hz.1 hz.2).mono ?_
  rintro e w' ⟨A1, c1, rfl, _, hb⟩
  exact ⟨A1, _, c1, _, rfl, by show (((sopen T ps).e : Int) != 0) = true; simp; omega, hb⟩
set_option maxHeartbeats 8000000 in
set_option maxRecDepth 100000 in
theorem segmentCuts_walk (A : Option Addr) (c : Nat) (T : List UInt8) (A' : Option Addr) (c' : Nat) (rows : List (List V)) (a : Int) (W : World) (hT : Rd W W.heap.size A (cells T)) (hTc : T.length ≤ c ∧ c ≤ maxLen)
    (hr : RdVV W W.heap.size A' rows) (hrc : rows.length ≤ c' ∧ c' ≤ maxLen) (hv : ∀ r ∈ rows, r.length ≤ maxLen ∧ ∀ v ∈ r, vok v) (ha : 0 ≤ a ∧ a < 256) :
    Calls Try.prog 7 #[.slice A T.length c, .slice A' rows.length c', .int .u8 a] W fun e w' => e = .returned (.bool true) ∧ Below W.heap.size W w' := by
  obtain ⟨cb, rfl⟩ := byte_of ha
  clear ha
  have KL := long7_any W.heap.size A A' c c' T rows W hr (Nat.le_refl _) (by omega) (by omega)
  by_cases hlg : lng7 T rows = true
  case pos =>
    rw [hlg] at KL
    have HL := Lib.hid KL
    clear KL hlg
    go_enter Try.func7, Try.ntmps7
    go_wp2_with fail
    refine HL.out.mono ?_; rintro e w1 ⟨rfl, hq⟩
    subst hq
    go_wp2_with fail
    go_ret
    exact ⟨rfl, Below.refl _ _⟩
  have hlf : lng7 T rows = false := by simpa using hlg
  rw [hlf] at KL
  have HL := Lib.hid KL
  have hF := fits_of hlf hv
  have hTl := hF.t
  have hRl := hF.n
  have KY := Lib.hid (may7_any W.heap.size A A' c c' T rows W hT hr (Nat.le_refl _) (by omega) (by omega) (fun r hr => ⟨(hv r hr).1, fun v hv2 => ((hv r hr).2 v hv2).1⟩))
  by_cases hmay : (knownT T && rowsOk T rows) = true
  case neg =>
    have hm0 : (knownT T && rowsOk T rows) = false := by simpa using hmay
    rw [hm0] at KY
    clear hmay hm0 KL hlg hlf
    go_enter Try.func7, Try.ntmps7
    go_wp2_with fail
    refine HL.out.mono ?_; rintro e w1 ⟨rfl, hq⟩
    subst hq
    go_wp2_with fail
    refine KY.out.mono ?_; rintro e w1 ⟨rfl, hb1⟩
    go_wp2_with fail
    go_ret
    exact ⟨rfl, hb1⟩
  obtain ⟨hk1, hk2⟩ : knownT T = true ∧ rowsOk T rows = true := by rw [Bool.and_eq_true] at hmay; exact hmay
  rw [hmay] at KY
  obtain ⟨q, x, e1, hC⟩ := cuts_ok hF hk1 hk2 cb
  obtain ⟨hql, hqp, hqx, hxl, cf, cg, ch, ci, sf, sg, sh, si⟩ := hC
  have KM := Lib.hid (fun (w' : World) (h : Below W.heap.size W w') => smake_any W.heap.size A A' c c' T rows w' (hT.below h) (hr.below h) h.size (by omega) (by omega) hF.rowb (fun h1 h2 _ => by have := hF.size h1 h2; omega))
  rw [e1] at KM
  have HTR := Lib.hid (fun (w' : World) (h : Below W.heap.size W w') => (hT.below h).more (B' := w'.heap.size) h.size)
  have HPL := Lib.hid (show ∀ p ∈ q, p.length ≤ 1000000 from fun p hp => by
    have h1 := flat_mem_le hp
    have h2 := si.1
    rw [List.flatten_append, List.length_append] at h2
    omega)
  obtain ⟨m, hm⟩ : ∃ m, m = q.length - 1 := ⟨_, rfl⟩
  obtain ⟨y, hy⟩ : ∃ y, y = x.length - 1 := ⟨_, rfl⟩
  rw [← hm] at hqx cf cg ch sf sg sh
  rw [← hy] at cg sg
  have hmq : m < q.length := by omega
  have hmqI : (m : Int) < (q.length : Int) := by omega
  have hq0 : ((q.length : Int) == 0) = false := by simp; intro h; rw [h] at hqp; simp at hqp
  have hwm : IntKind.i64.wrap ((q.length : Int) - 1) = (m : Int) := by rw [IntKind.wrap_i64]; omega
  have hwy : IntKind.i64.wrap ((x.length : Int) - 1) = (y : Int) := by rw [IntKind.wrap_i64]; omega
  have hyx : y ≤ x.length ∧ y + 1 = x.length := by omega
  have HYX := Lib.hid hyx
  have HQX := Lib.hid hqx
  have hm1 : m = (q.take m).length := by rw [List.length_take]; omega
  have hx1 : x.length ≤ 1000 := hxl.2
  have K1 := Lib.hid (fun (w' : World) (A3 : Option Addr) (c3 : Nat) (h : Rd w' w'.heap.size A (cells T)) (h2 : RdBB w' w'.heap.size A3 (q.take m)) => open_no A A3 c c3 m T (q.take m) w' hm1 h h2 hTl (by omega) sf cf)
  have K2 := Lib.hid (fun (w' : World) (A3 : Option Addr) (c3 : Nat) (h : Rd w' w'.heap.size A (cells T)) (h2 : RdBB w' w'.heap.size A3 (q.set m (x.take y))) => open_no A A3 c c3 q.length T (q.set m (x.take y)) w' (by rw [List.length_set]) h h2 hTl (by rw [List.length_set]; omega) sg cg)
  have K3 := Lib.hid (fun (w' : World) (A3 : Option Addr) (c3 : Nat) (h : Rd w' w'.heap.size A (cells T)) (h2 : RdBB w' w'.heap.size A3 (q.set m (x ++ [cb]))) => open_no A A3 c c3 q.length T (q.set m (x ++ [cb])) w' (by rw [List.length_set]) h h2 hTl (by rw [List.length_set]; omega) sh ch)
  have K4 := Lib.hid (fun (k : Nat) (hk : k = q.length + 1) (w' : World) (A3 : Option Addr) (c3 : Nat) (h : Rd w' w'.heap.size A (cells T)) (h2 : RdBB w' w'.heap.size A3 (q ++ [[]])) => open_no A A3 c c3 k T (q ++ [[]]) w' (by rw [hk]; simp) h h2 hTl (by simp; omega) si ci)
  clear KL hlg hlf hF hTc hrc hv hmay hk1 hk2 e1 hm hy cf cg ch ci sf sg sh si hT hr hyx hqx hm1 hTl hRl hxl
  go_enter Try.func7, Try.ntmps7
  go_wp2_with fail
  refine HL.out.mono ?_; rintro e w1 ⟨rfl, hq⟩
  subst hq
  go_wp2_with fail
  refine KY.out.mono ?_; rintro e w1 ⟨rfl, hb1⟩
  have KM1 := Lib.hid (KM.out w1 hb1)
  clear KY KM HL
  go_wp2_with fail
  refine KM1.out.mono ?_; rintro e w2 ⟨A2, c2, rfl, own2, hb2⟩
  have hb02 := hb1.trans (hb2.mono hb1.size)
  dsimp only at own2 ⊢
  have HO2 := Lib.hid own2
  have hqc := own2.form
  obtain ⟨_, c2', ef, hqc2⟩ := hqc
  have hqc3 : q.length ≤ c2 := by simp only [Value.slice.injEq] at ef; omega
  have f7 := fun w' => upto_bs (A := A2) m (by omega) hqc3 w' (m : Int) rfl
  have KF := Lib.hid (K1.out w2 A2 c2 (HTR.out w2 hb02) (own2.rd.take m))
  clear KM1 own2 hb2 hb1 ef hqc2 K1
  go_wp2_with fail
  refine KF.out.mono ?_; rintro e w3 ⟨A3, n3, c3, x3, rfl, hx3, hb3⟩
  have hb03 := hb02.trans (hb3.mono hb02.size)
  have HO3 := Lib.hid (HO2.out.below hb3)
  have KP := Lib.hid (ownPieces_any w3.heap.size A2 c2 q w3 HO3.out.rd (Nat.le_refl _) (by omega) HPL.out)
  clear KF hb3 HO2 hb02 f7
  go_wp2_with fail
  refine KP.out.mono ?_; rintro e w5 ⟨A5, c5, rfl, own5, hb5⟩
  obtain ⟨g, rfl, hg3, hg5⟩ := own5.ptr hqp
  have hb05 := hb03.trans (hb5.mono hb03.size)
  obtain ⟨we, hwe⟩ : ∃ we, we = w5.drew := ⟨_, rfl⟩
  have hsz : we.heap.size = w5.heap.size := by rw [hwe]; rfl
  have HSZ := Lib.hid hsz
  have ownE : OwnBB we w3.heap.size (.slice (some ⟨g, 0, none⟩) q.length c5) q := by rw [hwe]; exact own5
  obtain ⟨s, sc, sf, sn, scap, so⟩ := ownE.at HQX.out
  obtain ⟨s1, s2, s3⟩ := s
  dsimp only at sn scap
  subst sn
  simp only [sl3] at sc so
  have f12 := fun w' => upto_any (A := s1) y HYX.out.1 scap w' (y : Int) rfl
  have HOE := Lib.hid ownE
  have HSO := Lib.hid so
  have HB5 := Lib.hid (show Below w3.heap.size w3 we from by rw [hwe]; exact hb5.drew)
  have hb05z := hb05.size
  clear KP hb5 own5 ownE so hb05 hsz hb05z
  go_wp2_with fail
  refine ah_start 15 (fun _ => True) rfl (by kernel_rfl) trivial ?_ ; intro hS
  rw [← hwe]
  clear hwe
  (refine mv_val 0 (v := ?_) rfl (by kernel_rfl) (by kernel_rfl) (by kernel_rfl) (fun _ _ _ h => h) (by rfl) hS ?_ ?_; rotate_left; (focus (intro w hSw; (try dsimp only at hSw); (have f3 := f12 w; have f4 := hmq; have f5 := hmqI; have f6 := hwy); go_simp; first | done | with_reducible rfl)); simp only [Act.put, List.setIfInBounds_toArray, List.set_cons_zero, List.set_cons_succ])
  (refine mv_val 1 (v := ?_) rfl (by kernel_rfl) (by kernel_rfl) (by kernel_rfl) (fun _ _ _ h => h) (by rfl) hS ?_ ?_; rotate_left; (focus (intro w hSw; (try dsimp only at hSw); (have f3 := f12 w; have f4 := hmq; have f5 := hmqI; have f6 := hwy); go_simp; first | done | with_reducible rfl)); simp only [Act.put, List.setIfInBounds_toArray, List.set_cons_zero, List.set_cons_succ])
  (refine mv_val 2 (v := ?_) rfl (by kernel_rfl) (by kernel_rfl) (by kernel_rfl) (fun _ _ _ h => h) (by rfl) hS ?_ ?_; rotate_left; (focus (intro w hSw; (try dsimp only at hSw); (have f3 := f12 w; have f4 := hmq; have f5 := hmqI; have f6 := hwy); go_simp; first | done | with_reducible rfl)); simp only [Act.put, List.setIfInBounds_toArray, List.set_cons_zero, List.set_cons_succ])
  (refine mv_val 3 (v := ?_) rfl (by kernel_rfl) (by kernel_rfl) (by kernel_rfl) (fun _ _ _ h => h) (by rfl) hS ?_ ?_; rotate_left; (focus (intro w hSw; (try dsimp only at hSw); (have f3 := f12 w; have f4 := hmq; have f5 := hmqI; have f6 := hwy); go_simp; first | done | with_reducible rfl)); simp only [Act.put, List.setIfInBounds_toArray, List.set_cons_zero, List.set_cons_succ])
  (refine mv_val 4 (v := ?_) rfl (by kernel_rfl) (by kernel_rfl) (by kernel_rfl) (fun _ _ _ h => h) (by rfl) hS ?_ ?_; rotate_left; (focus (intro w hSw; (try dsimp only at hSw); (have f3 := f12 w; have f4 := hmq; have f5 := hmqI; have f6 := hwy); go_simp; first | done | with_reducible rfl)); simp only [Act.put, List.setIfInBounds_toArray, List.set_cons_zero, List.set_cons_succ])
  (refine mv_val 6 (v := ?_) rfl (by kernel_rfl) (by kernel_rfl) (by kernel_rfl) (fun _ _ _ h => h) (by rfl) hS ?_ ?_; rotate_left; (focus (intro w hSw; (try dsimp only at hSw); (have f3 := f12 w; have f4 := hmq; have f5 := hmqI; have f6 := hwy); go_simp; first | done | with_reducible rfl)); simp only [Act.put, List.setIfInBounds_toArray, List.set_cons_zero, List.set_cons_succ])
  (refine mv_val 7 (v := ?_) rfl (by kernel_rfl) (by kernel_rfl) (by kernel_rfl) (fun _ _ _ h => h) (by rfl) hS ?_ ?_; rotate_left; (focus (intro w hSw; (try dsimp only at hSw); (have f3 := f12 w; have f4 := hmq; have f5 := hmqI; have f6 := hwy); go_simp; first | done | with_reducible rfl)); simp only [Act.put, List.setIfInBounds_toArray, List.set_cons_zero, List.set_cons_succ])
  (refine mv_val 8 (v := ?_) rfl (by kernel_rfl) (by kernel_rfl) (by kernel_rfl) (fun _ _ _ h => h) (by rfl) hS ?_ ?_; rotate_left; (focus (intro w hSw; (try dsimp only at hSw); (have f3 := f12 w; have f4 := hmq; have f5 := hmqI; have f6 := hwy); go_simp; first | done | with_reducible rfl)); simp only [Act.put, List.setIfInBounds_toArray, List.set_cons_zero, List.set_cons_succ])
  refine mv_two 5 9 rfl rfl (by kernel_rfl) (by rfl) (by rfl) (fun K hK => ?_) (fun K hK => ?_)
  · skip
    go_simp
    refine hK _ _ ?_ ?_ <;> clear hK K
    · trivial
    try simp only [Act.put, List.setIfInBounds_toArray, List.set_cons_zero, List.set_cons_succ]
    refine mv_step 9 rfl (by kernel_rfl) (by rfl) (fun K hK => ?_)
    go_simp
    refine hK _ _ ?_ ?_ <;> clear hK K
    · trivial
    try simp only [Act.put, List.setIfInBounds_toArray, List.set_cons_zero, List.set_cons_succ]
    (refine mv_val 10 (v := ?_) rfl (by kernel_rfl) (by kernel_rfl) (by kernel_rfl) (fun _ _ _ h => h) (by rfl) hS ?_ ?_; rotate_left; (focus (intro w hSw; (try dsimp only at hSw); (have f3 := f12 w; have f4 := hmq; have f5 := hmqI; have f6 := hwy); go_simp; first | done | with_reducible rfl)); simp only [Act.put, List.setIfInBounds_toArray, List.set_cons_zero, List.set_cons_succ])
    (refine mv_val 11 (v := ?_) rfl (by kernel_rfl) (by kernel_rfl) (by kernel_rfl) (fun _ _ _ h => h) (by rfl) hS ?_ ?_; rotate_left; (focus (intro w hSw; (try dsimp only at hSw); (have f3 := f12 w; have f4 := hmq; have f5 := hmqI; have f6 := hwy); go_simp; first | done | with_reducible rfl)); simp only [Act.put, List.setIfInBounds_toArray, List.set_cons_zero, List.set_cons_succ])
    (refine mv_val 12 (v := ?_) rfl (by kernel_rfl) (by kernel_rfl) (by kernel_rfl) (fun _ _ _ h => h) (by rfl) hS ?_ ?_; rotate_left; (focus (intro w hSw; (try dsimp only at hSw); (have f3 := f12 w; have f4 := hmq; have f5 := hmqI; have f6 := hwy); go_simp; first | done | with_reducible rfl)); simp only [Act.put, List.setIfInBounds_toArray, List.set_cons_zero, List.set_cons_succ])
    (refine mv_val 13 (v := ?_) rfl (by kernel_rfl) (by kernel_rfl) (by kernel_rfl) (fun _ _ _ h => h) (by rfl) hS ?_ ?_; rotate_left; (focus (intro w hSw; (try dsimp only at hSw); (have f3 := f12 w; have f4 := hmq; have f5 := hmqI; have f6 := hwy); go_simp; first | done | with_reducible rfl)); simp only [Act.put, List.setIfInBounds_toArray, List.set_cons_zero, List.set_cons_succ])
    refine mv_step 14 rfl (by kernel_rfl) (by rfl) (fun K hK => ?_)
    go_simp
    refine hK _ _ ?_ ?_ <;> clear hK K
    · trivial
    try simp only [Act.put, List.setIfInBounds_toArray, List.set_cons_zero, List.set_cons_succ]
    refine wpAnyH_done (by kernel_rfl) ?_ _
    have rd6 : RdBB (we.setCell ⟨g, m, none⟩ (.slice s1 y s3)) we.heap.size (some ⟨g, 0, none⟩) (q.set m (x.take y)) := by
      have hlt : (x.take y).length = y := by rw [List.length_take]; have := HYX.out; omega
      have h1 := own_grown HSO.out (grown_set we g m (.slice s1 y s3)) (fun k hk e => by
        obtain ⟨ss, q1, q2, _⟩ := HOE.out
        exact Ap.ne (own_type HSO.out q2 (by decide)) k hk (by simpa [Value.ownBlock] using e))
      have h2 := (rd_own h1).take y
      refine OwnN.rdset (s' := (s1, y, s3)) (by decide) HOE.out hmq hlt.symm (by rw [hlt]; show y ≤ s3; have := HYX.out; omega) ?_
      rw [show cells (x.take y) = (cells x).take y from List.map_take]
      simpa using h2
    obtain ⟨w6, hw6⟩ : ∃ w6, w6 = we.setCell ⟨g, m, none⟩ (.slice s1 y s3) := ⟨_, rfl⟩
    have hb36 : Below w3.heap.size w3 w6 := by rw [hw6]; exact HB5.out.setCell (p := ⟨g, m, none⟩) hg3 _
    have hz6 : w6.heap.size = we.heap.size := by rw [hw6]; simp
    have hb06 := hb03.trans (hb36.mono hb03.size)
    have HO6 := Lib.hid (HO3.out.below hb36)
    rw [← hw6] at rd6 ⊢
    have KG := Lib.hid (K2.out w6 (some ⟨g, 0, none⟩) c5 (HTR.out w6 hb06) (by rw [hz6]; exact rd6))
    clear hw6 rd6 hz6 hb36 HOE HSO HB5 HSZ K2 f12 sc sf
    go_wp2_with fail
    refine KG.out.mono ?_; rintro e w7 ⟨A7, n7, c7, x7, rfl, hx7, hb7⟩
    have hb07 := hb06.trans (hb7.mono hb06.size)
    have HO7 := Lib.hid (HO6.out.below hb7)
    have KP2 := Lib.hid (ownPieces_any w7.heap.size A2 c2 q w7 HO7.out.rd (Nat.le_refl _) (by omega) HPL.out)
    clear KG hb7 HO6 hb06 HO3 hb03
    go_wp2_with fail
    refine KP2.out.mono ?_; rintro e w8 ⟨A8, c8, rfl, own8, hb8⟩
    obtain ⟨g2, rfl, hg2, hg2s⟩ := own8.ptr hqp
    have hb07z := hb07.size
    have hb8z := hb8.size
    obtain ⟨s, sc2, sf2, sn2, scap2, so2⟩ := own8.at HQX.out
    obtain ⟨u1, u2, u3⟩ := s
    dsimp only at sn2 scap2
    subst sn2
    simp only [sl3] at sc2 so2
    have so2a := so2.alloc (.cells #[.int .u8 (cb.toNat : Int)] 5)
    have HO8 := Lib.hid own8
    clear own8 so2 KP2
    go_wp2_with (at_builtin; refine wpList_app El_u8 rfl _ _ rfl so2a rfl rfl (by exact rd_one _ _ _ _ _ rfl (Nat.lt_add_one _)) rfl (by intro u hu; simp at hu; subst hu; rfl) (by unfold maxLen; omega) (by omega) (by simp; omega) ?_; intro v9 w9 hown9 hg9 hor9; obtain ⟨A9, c9, rfl, _⟩ := own_form hown9; rw [show cells x ++ [Value.int .u8 (cb.toNat : Int)] = cells (x ++ [cb]) from by rw [cells_append]; rfl] at hown9; obtain ⟨⟨x9, y9⟩, hU⟩ := OwnN.upd (s := (u1, x.length, u3)) (s' := (A9, x.length + 1, c9)) (b' := x ++ [cb]) (by decide) HO8.out HQX.out sc2 (by simp) (by rw [show (x ++ [cb]).length = x.length + 1 by simp]; exact hown9) ((Below.refl _ w8).alloc (Nat.le_refl _) _) hg9 hor9; simp only [sl3] at x9 hU; have HU := Lib.hid hU; have hb79 := (hb8.alloc hb8z _).trans (own_below so2a hg9 (by simp; omega)); clear hown9 hg9 hor9 so2a hU sc2 sf2)
    obtain ⟨w10, hw10⟩ : ∃ w10, w10 = w9.setCell ⟨g2, m, none⟩ (.slice A9 (x.length + 1) c9) := ⟨_, rfl⟩
    have hb710 : Below w7.heap.size w7 w10 := by rw [hw10]; exact hb79.setCell (p := ⟨g2, m, none⟩) hg2 _
    have hb010 := hb07.trans (hb710.mono hb07z)
    have HO10 := Lib.hid (HO7.out.below hb710)
    have KH := Lib.hid (K3.out w10 (some ⟨g2, 0, none⟩) c8 (HTR.out w10 hb010) (show OwnBB w10 w7.heap.size (.slice (some ⟨g2, 0, none⟩) q.length c8) (q.set m (x ++ [cb])) by rw [hw10]; exact HU.out).rd)
    rw [← hw10]
    clear hw10 hb710 hb79 HU HO8 HO7 x9 y9 hb8 hb8z hb07z hb07 K3
    refine KH.out.mono ?_; rintro e w11 ⟨A11, n11, c11, x11, rfl, hx11, hb11⟩
    have hb011 := hb010.trans (hb11.mono hb010.size)
    have HO11 := Lib.hid (HO10.out.below hb11)
    have KP3 := Lib.hid (ownPieces_any w11.heap.size A2 c2 q w11 HO11.out.rd (Nat.le_refl _) (by omega) HPL.out)
    clear KH hb11 HO10 hb010
    go_wp2_with fail
    refine KP3.out.mono ?_; rintro e w12 ⟨A12, c12, rfl, own12, hb12⟩
    have hb012 := hb011.trans (hb12.mono hb011.size)
    have hz12 := hb12.size
    obtain ⟨ss, own13, hssl, happ⟩ := OwnN.app (s := (some ⟨w12.heap.size, 0, none⟩, 0, 0)) (b := []) (by decide) own12 ((Below.refl _ w12).alloc (Nat.le_refl _) _) hz12 rfl (lit0B w12) (.cells #[.slice (some ⟨w12.heap.size, 0, none⟩) 0 0] 22)
    have HAPP := Lib.hid happ
    have HSS := Lib.hid hssl
    have hss : ss.length ≤ 1000 := by omega
    have hz012 := hb012.size
    have hbx : Below w11.heap.size w11 ((w12.alloc (.cells #[] 5)).alloc (.cells #[.slice (some ⟨w12.heap.size, 0, none⟩) 0 0] 22)) := (hb12.alloc hz12 _).alloc (by simp; omega) _
    clear happ hssl own12 KP3 HO11
    go_wp2_with (at_builtin; refine wpList_app El_bs rfl _ _ rfl own13 rfl rfl (by exact rd_one _ _ _ _ (w12.heap.size + 2) (by simp) (by omega)) rfl (by intro u hu; simp at hu; subst hu; rfl) (by unfold maxLen; omega) (by omega) (by simp; omega) ?_; intro v14 w14 hown14 hg14 _; obtain ⟨A14, c14, rfl, _⟩ := own_form hown14; have hb114 := hbx.trans (own_below own13 hg14 (by simp; omega)))
    have hb014 := hb011.trans (hb114.mono hb011.size)
    have own14 := HAPP.out w14 _ hown14 hg14
    have hk15 : ss.length + 1 = (q ++ [[]]).length := by simp [HSS.out]
    have KI := Lib.hid (K4.out (ss.length + 1) (by rw [HSS.out]) w14 A14 c14 (HTR.out w14 hb014) own14.rd)
    clear hk15 own14 hown14 hg14 own13 hbx hb12 HAPP hb114 hb011 hb012 K4
    refine KI.out.mono ?_; rintro e w15 ⟨A15, n15, c15, x15, rfl, hx15, hb15⟩
    have hb015 := hb014.trans (hb15.mono hb014.size)
    go_wp2_with fail
    refine (makes_any w15).mono ?_; rintro e w16 ⟨rfl, hb16⟩
    have hb016 := hb015.trans (hb16.mono hb015.size)
    go_wp2_with fail
    go_ret
    exact ⟨rfl, hb016⟩
  · skip
    go_simp
    refine hK _ _ ?_ ?_ <;> clear hK K
    · trivial
    try simp only [Act.put, List.setIfInBounds_toArray, List.set_cons_zero, List.set_cons_succ]
    (refine mv_val 10 (v := ?_) rfl (by kernel_rfl) (by kernel_rfl) (by kernel_rfl) (fun _ _ _ h => h) (by rfl) hS ?_ ?_; rotate_left; (focus (intro w hSw; (try dsimp only at hSw); (have f3 := f12 w; have f4 := hmq; have f5 := hmqI; have f6 := hwy); go_simp; first | done | with_reducible rfl)); simp only [Act.put, List.setIfInBounds_toArray, List.set_cons_zero, List.set_cons_succ])
    (refine mv_val 11 (v := ?_) rfl (by kernel_rfl) (by kernel_rfl) (by kernel_rfl) (fun _ _ _ h => h) (by rfl) hS ?_ ?_; rotate_left; (focus (intro w hSw; (try dsimp only at hSw); (have f3 := f12 w; have f4 := hmq; have f5 := hmqI; have f6 := hwy); go_simp; first | done | with_reducible rfl)); simp only [Act.put, List.setIfInBounds_toArray, List.set_cons_zero, List.set_cons_succ])
    refine mv_step 5 rfl (by kernel_rfl) (by rfl) (fun K hK => ?_)
    go_simp
    refine hK _ _ ?_ ?_ <;> clear hK K
    · trivial
    try simp only [Act.put, List.setIfInBounds_toArray, List.set_cons_zero, List.set_cons_succ]
    (refine mv_val 12 (v := ?_) rfl (by kernel_rfl) (by kernel_rfl) (by kernel_rfl) (fun _ _ _ h => h) (by rfl) hS ?_ ?_; rotate_left; (focus (intro w hSw; (try dsimp only at hSw); (have f3 := f12 w; have f4 := hmq; have f5 := hmqI; have f6 := hwy); go_simp; first | done | with_reducible rfl)); simp only [Act.put, List.setIfInBounds_toArray, List.set_cons_zero, List.set_cons_succ])
    (refine mv_val 13 (v := ?_) rfl (by kernel_rfl) (by kernel_rfl) (by kernel_rfl) (fun _ _ _ h => h) (by rfl) hS ?_ ?_; rotate_left; (focus (intro w hSw; (try dsimp only at hSw); (have f3 := f12 w; have f4 := hmq; have f5 := hmqI; have f6 := hwy); go_simp; first | done | with_reducible rfl)); simp only [Act.put, List.setIfInBounds_toArray, List.set_cons_zero, List.set_cons_succ])
    refine mv_step 14 rfl (by kernel_rfl) (by rfl) (fun K hK => ?_)
    go_simp
    refine hK _ _ ?_ ?_ <;> clear hK K
    · trivial
    try simp only [Act.put, List.setIfInBounds_toArray, List.set_cons_zero, List.set_cons_succ]
    refine wpAnyH_done (by kernel_rfl) ?_ _
    have rd6 : RdBB (we.setCell ⟨g, m, none⟩ (.slice s1 y s3)) we.heap.size (some ⟨g, 0, none⟩) (q.set m (x.take y)) := by
      have hlt : (x.take y).length = y := by rw [List.length_take]; have := HYX.out; omega
      have h1 := own_grown HSO.out (grown_set we g m (.slice s1 y s3)) (fun k hk e => by
        obtain ⟨ss, q1, q2, _⟩ := HOE.out
        exact Ap.ne (own_type HSO.out q2 (by decide)) k hk (by simpa [Value.ownBlock] using e))
      have h2 := (rd_own h1).take y
      refine OwnN.rdset (s' := (s1, y, s3)) (by decide) HOE.out hmq hlt.symm (by rw [hlt]; show y ≤ s3; have := HYX.out; omega) ?_
      rw [show cells (x.take y) = (cells x).take y from List.map_take]
      simpa using h2
    obtain ⟨w6, hw6⟩ : ∃ w6, w6 = we.setCell ⟨g, m, none⟩ (.slice s1 y s3) := ⟨_, rfl⟩
    have hb36 : Below w3.heap.size w3 w6 := by rw [hw6]; exact HB5.out.setCell (p := ⟨g, m, none⟩) hg3 _
    have hz6 : w6.heap.size = we.heap.size := by rw [hw6]; simp
    have hb06 := hb03.trans (hb36.mono hb03.size)
    have HO6 := Lib.hid (HO3.out.below hb36)
    rw [← hw6] at rd6 ⊢
    have KG := Lib.hid (K2.out w6 (some ⟨g, 0, none⟩) c5 (HTR.out w6 hb06) (by rw [hz6]; exact rd6))
    clear hw6 rd6 hz6 hb36 HOE HSO HB5 HSZ K2 f12 sc sf
    go_wp2_with fail
    refine KG.out.mono ?_; rintro e w7 ⟨A7, n7, c7, x7, rfl, hx7, hb7⟩
    have hb07 := hb06.trans (hb7.mono hb06.size)
    have HO7 := Lib.hid (HO6.out.below hb7)
    have KP2 := Lib.hid (ownPieces_any w7.heap.size A2 c2 q w7 HO7.out.rd (Nat.le_refl _) (by omega) HPL.out)
    clear KG hb7 HO6 hb06 HO3 hb03
    go_wp2_with fail
    refine KP2.out.mono ?_; rintro e w8 ⟨A8, c8, rfl, own8, hb8⟩
    obtain ⟨g2, rfl, hg2, hg2s⟩ := own8.ptr hqp
    have hb07z := hb07.size
    have hb8z := hb8.size
    obtain ⟨s, sc2, sf2, sn2, scap2, so2⟩ := own8.at HQX.out
    obtain ⟨u1, u2, u3⟩ := s
    dsimp only at sn2 scap2
    subst sn2
    simp only [sl3] at sc2 so2
    have so2a := so2.alloc (.cells #[.int .u8 (cb.toNat : Int)] 5)
    have HO8 := Lib.hid own8
    clear own8 so2 KP2
    go_wp2_with (at_builtin; refine wpList_app El_u8 rfl _ _ rfl so2a rfl rfl (by exact rd_one _ _ _ _ _ rfl (Nat.lt_add_one _)) rfl (by intro u hu; simp at hu; subst hu; rfl) (by unfold maxLen; omega) (by omega) (by simp; omega) ?_; intro v9 w9 hown9 hg9 hor9; obtain ⟨A9, c9, rfl, _⟩ := own_form hown9; rw [show cells x ++ [Value.int .u8 (cb.toNat : Int)] = cells (x ++ [cb]) from by rw [cells_append]; rfl] at hown9; obtain ⟨⟨x9, y9⟩, hU⟩ := OwnN.upd (s := (u1, x.length, u3)) (s' := (A9, x.length + 1, c9)) (b' := x ++ [cb]) (by decide) HO8.out HQX.out sc2 (by simp) (by rw [show (x ++ [cb]).length = x.length + 1 by simp]; exact hown9) ((Below.refl _ w8).alloc (Nat.le_refl _) _) hg9 hor9; simp only [sl3] at x9 hU; have HU := Lib.hid hU; have hb79 := (hb8.alloc hb8z _).trans (own_below so2a hg9 (by simp; omega)); clear hown9 hg9 hor9 so2a hU sc2 sf2)
    obtain ⟨w10, hw10⟩ : ∃ w10, w10 = w9.setCell ⟨g2, m, none⟩ (.slice A9 (x.length + 1) c9) := ⟨_, rfl⟩
    have hb710 : Below w7.heap.size w7 w10 := by rw [hw10]; exact hb79.setCell (p := ⟨g2, m, none⟩) hg2 _
    have hb010 := hb07.trans (hb710.mono hb07z)
    have HO10 := Lib.hid (HO7.out.below hb710)
    have KH := Lib.hid (K3.out w10 (some ⟨g2, 0, none⟩) c8 (HTR.out w10 hb010) (show OwnBB w10 w7.heap.size (.slice (some ⟨g2, 0, none⟩) q.length c8) (q.set m (x ++ [cb])) by rw [hw10]; exact HU.out).rd)
    rw [← hw10]
    clear hw10 hb710 hb79 HU HO8 HO7 x9 y9 hb8 hb8z hb07z hb07 K3
    refine KH.out.mono ?_; rintro e w11 ⟨A11, n11, c11, x11, rfl, hx11, hb11⟩
    have hb011 := hb010.trans (hb11.mono hb010.size)
    have HO11 := Lib.hid (HO10.out.below hb11)
    have KP3 := Lib.hid (ownPieces_any w11.heap.size A2 c2 q w11 HO11.out.rd (Nat.le_refl _) (by omega) HPL.out)
    clear KH hb11 HO10 hb010
    go_wp2_with fail
    refine KP3.out.mono ?_; rintro e w12 ⟨A12, c12, rfl, own12, hb12⟩
    have hb012 := hb011.trans (hb12.mono hb011.size)
    have hz12 := hb12.size
    obtain ⟨ss, own13, hssl, happ⟩ := OwnN.app (s := (some ⟨w12.heap.size, 0, none⟩, 0, 0)) (b := []) (by decide) own12 ((Below.refl _ w12).alloc (Nat.le_refl _) _) hz12 rfl (lit0B w12) (.cells #[.slice (some ⟨w12.heap.size, 0, none⟩) 0 0] 22)
    have HAPP := Lib.hid happ
    have HSS := Lib.hid hssl
    have hss : ss.length ≤ 1000 := by omega
    have hz012 := hb012.size
    have hbx : Below w11.heap.size w11 ((w12.alloc (.cells #[] 5)).alloc (.cells #[.slice (some ⟨w12.heap.size, 0, none⟩) 0 0] 22)) := (hb12.alloc hz12 _).alloc (by simp; omega) _
    clear happ hssl own12 KP3 HO11
    go_wp2_with (at_builtin; refine wpList_app El_bs rfl _ _ rfl own13 rfl rfl (by exact rd_one _ _ _ _ (w12.heap.size + 2) (by simp) (by omega)) rfl (by intro u hu; simp at hu; subst hu; rfl) (by unfold maxLen; omega) (by omega) (by simp; omega) ?_; intro v14 w14 hown14 hg14 _; obtain ⟨A14, c14, rfl, _⟩ := own_form hown14; have hb114 := hbx.trans (own_below own13 hg14 (by simp; omega)))
    have hb014 := hb011.trans (hb114.mono hb011.size)
    have own14 := HAPP.out w14 _ hown14 hg14
    have hk15 : ss.length + 1 = (q ++ [[]]).length := by simp [HSS.out]
    have KI := Lib.hid (K4.out (ss.length + 1) (by rw [HSS.out]) w14 A14 c14 (HTR.out w14 hb014) own14.rd)
    clear hk15 own14 hown14 hg14 own13 hbx hb12 HAPP hb114 hb011 hb012 K4
    refine KI.out.mono ?_; rintro e w15 ⟨A15, n15, c15, x15, rfl, hx15, hb15⟩
    have hb015 := hb014.trans (hb15.mono hb014.size)
    go_wp2_with fail
    refine (makes_any w15).mono ?_; rintro e w16 ⟨rfl, hb16⟩
    have hb016 := hb015.trans (hb16.mono hb015.size)
    go_wp2_with fail
    go_ret
    exact ⟨rfl, hb016⟩
end Go.Proofs.Ythkpgjcnnfdibaa
